/- The master: its chain told. The master: each seat is told the chain, and leases are granted. The master: time goes on. The master: a beat, and a question where it is. The master: it takes a message. The master: a node is taken for dead; it falls. The master: it falls, perhaps amid a write. -/
import Derived.Test.YtomfmejodmfioaaGreatKMst2
import Derived.Laws.Rows
namespace Go.Proofs.YtomfmejodmfioaaGreat
open Go.RowKit Go.Maps Go.ChangeShapes Go.WideShapes Go.Joins Go.Deep
set_option linter.unusedVariables false


set_option maxRecDepth 100000 in
set_option maxHeartbeats 4000000 in

theorem mconfig_nil (w : World) : Calls Tryz.prog 13 #[.pointer none] w fun e w' => e = .returned (.agg #[.int .i64 0, .slice none 0 0]) ∧ Below w.heap.size w w' := by
  go_enter Tryz.func13, Tryz.ntmps13
  go_upto_region 1 with (fail)
  have hD : BlkAt (w.alloc (.cells #[.int .i64 0, .slice none 0 0] 35)) w.heap.size 35 [.int .i64 0, .slice none 0 0] := BlkAt.new w 35 [.int .i64 0, .slice none 0 0]
  have hb : Below w.heap.size w (w.alloc (.cells #[.int .i64 0, .slice none 0 0] 35)) := (Below.refl w.heap.size w).alloc (Nat.le_refl _) _
  have hWs : w.heap.size + 1 ≤ (w.alloc (.cells #[.int .i64 0, .slice none 0 0] 35)).heap.size := by simp
  change Code.wp _ _ _ _ (w.alloc (.cells #[.int .i64 0, .slice none 0 0] 35))
  generalize w.alloc (.cells #[.int .i64 0, .slice none 0 0] 35) = W at *
  have d0 : W.cell? ⟨w.heap.size, 0, none⟩ = some (.int .i64 0) := hD.cell rfl
  have d1 : W.cell? ⟨w.heap.size, 1, none⟩ = some (.slice none 0 0) := hD.cell rfl
  have hf := hD.free
  go_wp2_with fail
  obtain ⟨hE, hbE⟩ := fin2 (p := .int .i64 0) (q := .slice none 0 0) hD hb (Nat.le_refl _)
  change bodyPost _ _ _ _ _ ((W.setCell ⟨w.heap.size, 0, none⟩ (.int .i64 0)).setCell ⟨w.heap.size, 1, none⟩ (.slice none 0 0))
  generalize (W.setCell ⟨w.heap.size, 0, none⟩ (.int .i64 0)).setCell ⟨w.heap.size, 1, none⟩ (.slice none 0 0) = W9 at *
  clear d0 d1
  have d0 := hE.cell (i := 0) rfl
  have d1 := hE.cell (i := 1) rfl
  exact bodyPost_ret (v := .agg #[.int .i64 0, .slice none 0 0]) (by simp [results, Tryz.results13, go_sem, d0, d1] <;> rfl) rfl ⟨rfl, hbE⟩
set_option maxRecDepth 100000 in
set_option maxHeartbeats 4000000 in

theorem mconfig_any {B x N : Nat} {w : World} {b : MBlk} {V : MstV} {l : List UInt8} (h : MAt B w x b N V l) :
    Calls Tryz.prog 13 #[.pointer (some ⟨x, 0, none⟩)] w fun e w' => ∃ A cap, e = .returned (.agg #[.int .i64 V.cf.epoch, .slice A V.cf.chain.length cap]) ∧ ChainS w' (.slice A V.cf.chain.length cap) V.cf.chain ∧ Below w.heap.size w w' := by
  have hl8 := right_len h.ok.right
  have hok8 : ∀ s ∈ V.cf.chain, SeatOk s := fun s hs => w64_seats h.ok.right s hs
  have hl0 : 0 < V.cf.chain.length := by omega
  have hl1 : V.cf.chain.length ≤ 1000 := by omega
  have HX := Lib.hid h.lows
  obtain ⟨A, cap, hC, c8, c9⟩ := h.conf
  have hxlt := h.lt
  have HC9 : Hid (∀ W', Below w.heap.size w W' → ChainS W' (.slice A V.cf.chain.length cap) V.cf.chain ∧ W'.cell? ⟨x, 9, none⟩ = some (.slice A V.cf.chain.length cap)) := Lib.hid (fun W' hW => ⟨hC.below hW, (hW.cell (p := ⟨x, _, none⟩) hxlt).trans c9⟩)
  clear hC c8 c9 hxlt h
  go_enter Tryz.func13, Tryz.ntmps13
  go_upto_region 1 with (fail)
  have hD : BlkAt (w.alloc (.cells #[.int .i64 0, .slice none 0 0] 35)) w.heap.size 35 [.int .i64 0, .slice none 0 0] := BlkAt.new w 35 [.int .i64 0, .slice none 0 0]
  have hb : Below w.heap.size w (w.alloc (.cells #[.int .i64 0, .slice none 0 0] 35)) := (Below.refl w.heap.size w).alloc (Nat.le_refl _) _
  have hWs : w.heap.size + 1 ≤ (w.alloc (.cells #[.int .i64 0, .slice none 0 0] 35)).heap.size := by simp
  change Code.wp _ _ _ _ (w.alloc (.cells #[.int .i64 0, .slice none 0 0] 35))
  generalize w.alloc (.cells #[.int .i64 0, .slice none 0 0] 35) = W at *
  obtain ⟨D, hDD⟩ : ∃ D, D = w.heap.size := ⟨_, rfl⟩
  have hDn : w.heap.size ≤ D := by omega
  rw [← hDD] at hD ⊢
  clear hDD hWs
  go_upto_region 3 with (fail)
  have hb0 : Below w.heap.size w W.drew := below_drewN hb 1
  clear hb
  have hb := hb0
  clear hb0
  have hD0 : BlkAt W.drew D 35 [.int .i64 0, .slice none 0 0] := hD
  clear hD
  have hD := hD0
  clear hD0
  refine wp_region_noPanic ?_
  refine wp_region_held_drew (S := (fun w' => w'.cell? ⟨x, 8, none⟩ = some (.int .i64 V.cf.epoch) ∧ w'.cell? ⟨x, 9, none⟩ = some (.slice A V.cf.chain.length cap))) (by kernel_rfl) (by exact ⟨HX.out _ hb 8 _ rfl, (HC9.out _ hb).2⟩) (fun hHeld => ?_)
  refine wtk 0 hHeld ?_
  refine wtk 1 hHeld ?_
  refine wtk 2 hHeld ?_
  refine wtk 3 hHeld ?_
  refine wtk 4 hHeld ?_
  refine wtk 5 hHeld ?_
  refine wtk 6 hHeld ?_
  refine wtk 7 hHeld ?_
  refine wtk 8 hHeld ?_
  refine wtk 9 hHeld ?_
  refine wpAnyH_ready (rs := [10]) (by kernel_rfl) (by simp) (AllReadyH.cons (o := ?oq_1_10) ?op_1_10 (fun K hK => ?re_1_10) AllReadyH.nil)
  case op_1_10 => (simp only [List.getElem?_toArray, List.getElem?_cons_succ, List.getElem?_cons_zero]; rfl)
  go_simp
  go_at_call 32
  refine (clone_any (by exact (HC9.out _ hb).1.1) hl0 hl1).mono ?_
  rintro en w5 ⟨g, gcap, rfl, hg0, b5⟩
  have hg := chainS_of_own hg0 hok8
  clear hg0
  replace hD := hD.below b5
  replace hb := below_step hb b5
  clear b5
  refine hK.out _ _ (by exact ⟨HX.out _ hb 8 _ rfl, (HC9.out _ hb).2⟩) (fun hHeld => ?_)
  clear hK K
  try simp only [Act.put, List.setIfInBounds_toArray, List.set_cons_zero, List.set_cons_succ]
  refine wtk 11 hHeld ?_
  refine wpAnyH_ready (rs := [12]) (by kernel_rfl) (by simp) (AllReadyH.cons (o := ?oq_1_12) ?op_1_12 (fun K hK => ?re_1_12) AllReadyH.nil)
  case op_1_12 => (simp only [List.getElem?_toArray, List.getElem?_cons_succ, List.getElem?_cons_zero]; rfl)
  have z0 := hD.cell (i := 0) rfl
  have z1 := hD.cell (i := 1) rfl
  have zf := hD.free
  go_simp
  have G1 := grown_setCell w5 D 0 (.int .i64 V.cf.epoch)
  have G2 := grown_setCell (w5.setCell ⟨D, 0, none⟩ (.int .i64 V.cf.epoch)) D 1 (.slice (some ⟨g, 0, none⟩) V.cf.chain.length gcap)
  replace hg := hg.set2 hD (.int .i64 V.cf.epoch) (.slice (some ⟨g, 0, none⟩) V.cf.chain.length gcap)
  replace hb := (hb.grown G1 hb.size (by intro j hj; cases hj; exact hDn)).grown G2 (hb.grown G1 hb.size (by intro j hj; cases hj; exact hDn)).size (by intro j hj; cases hj; exact hDn)
  replace hD := (hD.set 0 (.int .i64 V.cf.epoch)).set 1 (.slice (some ⟨g, 0, none⟩) V.cf.chain.length gcap)
  clear z0 z1 zf G1 G2
  change BlkAt ((w5.setCell ⟨D, 0, none⟩ (.int .i64 V.cf.epoch)).setCell ⟨D, 1, none⟩ (.slice (some ⟨g, 0, none⟩) V.cf.chain.length gcap)) D 35 [.int .i64 V.cf.epoch, .slice (some ⟨g, 0, none⟩) V.cf.chain.length gcap] at hD
  change K _ ((w5.setCell ⟨D, 0, none⟩ (.int .i64 V.cf.epoch)).setCell ⟨D, 1, none⟩ (.slice (some ⟨g, 0, none⟩) V.cf.chain.length gcap))
  generalize ((w5.setCell ⟨D, 0, none⟩ (.int .i64 V.cf.epoch)).setCell ⟨D, 1, none⟩ (.slice (some ⟨g, 0, none⟩) V.cf.chain.length gcap)) = w9 at *
  refine hK.out _ _ (by exact ⟨HX.out _ hb 8 _ rfl, (HC9.out _ hb).2⟩) (fun hHeld => ?_)
  clear hK K
  try simp only [Act.put, List.setIfInBounds_toArray, List.set_cons_zero, List.set_cons_succ]
  refine wpAnyH_done (by kernel_rfl) ?_ _
  refine NoPanic.normal ?_
  clear hHeld
  have d0 := hD.cell (i := 0) rfl
  have d1 := hD.cell (i := 1) rfl
  have HG := Lib.hid hg
  have HB := Lib.hid hb
  clear hg hb
  go_wp2_with fail
  exact bodyPost_ret (v := .agg #[.int .i64 V.cf.epoch, .slice (some ⟨g, 0, none⟩) V.cf.chain.length gcap]) (by simp [results, Tryz.results13, go_sem, d0, d1] <;> rfl) rfl ⟨_, _, rfl, HG.out, HB.out⟩

/-! ### a message that tells a chain -/
def tellC (dst till e : Int) (v : Value) : List Value :=
  [.int .i64 2, .int .i64 dst, .int .i64 0, .int .i64 0, .int .i64 0, .int .i64 0, .int .i64 0, .int .i64 0, .int .i64 0, .int .i64 till, .bool false, .int .i64 0, .int .i64 0, .int .i64 0, .int .i64 0, .int .i64 0, .int .i64 0, .int .i64 0, .int .i64 0, .int .i64 0,
   .string ⟨#[]⟩, .int .i64 0, .int .i64 0, .int .i64 0, .int .i64 e, v, .slice none 0 0, .int .i64 0]
/-- What 28 cells tell. -/
def SaidV (w : World) (cs : List Value) (m : Int × Int) (c : ConfV) : Prop :=
  ∃ A cap, cs = tellC m.1 m.2 c.epoch (.slice A c.chain.length cap) ∧ ChainS w (.slice A c.chain.length cap) c.chain
theorem SaidV.below {w w' : World} {cs : List Value} {m : Int × Int} {c : ConfV} (h : SaidV w cs m c) (hb : Below w.heap.size w w') : SaidV w' cs m c := by
  obtain ⟨A, cap, h1, h2⟩ := h
  exact ⟨A, cap, h1, h2.below hb⟩
theorem SaidV.len {w : World} {cs : List Value} {m : Int × Int} {c : ConfV} (h : SaidV w cs m c) : cs.length = 28 := by
  obtain ⟨A, cap, rfl, _⟩ := h
  rfl
theorem SaidV.one {w : World} {cs : List Value} {m : Int × Int} {c : ConfV} (h : SaidV w cs m c) : ∀ u ∈ cs, u.oneCell' = true := by
  obtain ⟨A, cap, rfl, _⟩ := h
  simp [tellC, Value.oneCell']
theorem mmsg_info : (Tryz.prog.info? 58).map (·.size) = some 28 := by kernel_rfl
set_option maxRecDepth 100000 in
set_option maxHeartbeats 4000000 in

theorem mtell_any {B x N : Nat} {w : World} {b : MBlk} {V : MstV} {l : List UInt8} (h : MAt B w x b N V l) (dst till : Int) :
    Calls Tryz.prog 81 #[.pointer (some ⟨x, 0, none⟩), .int .i64 dst, .int .i64 till] w fun e w' => ∃ cs, e = .returned (.agg cs.toArray) ∧ SaidV w' cs (dst, till) V.cf ∧ Below w.heap.size w w' := by
  go_enter Tryz.func81, Tryz.ntmps81
  go_upto_region 1 with (fail)
  have hD : BlkAt (w.alloc (.cells #[.int .i64 0, .int .i64 0, .int .i64 0, .int .i64 0, .int .i64 0, .int .i64 0, .int .i64 0, .int .i64 0, .int .i64 0, .int .i64 0, .bool false, .int .i64 0, .int .i64 0, .int .i64 0, .int .i64 0, .int .i64 0, .int .i64 0, .int .i64 0, .int .i64 0, .int .i64 0, .string ⟨#[]⟩, .int .i64 0, .int .i64 0, .int .i64 0, .int .i64 0, .slice none 0 0, .slice none 0 0, .int .i64 0] 58)) w.heap.size 58 [.int .i64 0, .int .i64 0, .int .i64 0, .int .i64 0, .int .i64 0, .int .i64 0, .int .i64 0, .int .i64 0, .int .i64 0, .int .i64 0, .bool false, .int .i64 0, .int .i64 0, .int .i64 0, .int .i64 0, .int .i64 0, .int .i64 0, .int .i64 0, .int .i64 0, .int .i64 0, .string ⟨#[]⟩, .int .i64 0, .int .i64 0, .int .i64 0, .int .i64 0, .slice none 0 0, .slice none 0 0, .int .i64 0] := BlkAt.new w 58 [.int .i64 0, .int .i64 0, .int .i64 0, .int .i64 0, .int .i64 0, .int .i64 0, .int .i64 0, .int .i64 0, .int .i64 0, .int .i64 0, .bool false, .int .i64 0, .int .i64 0, .int .i64 0, .int .i64 0, .int .i64 0, .int .i64 0, .int .i64 0, .int .i64 0, .int .i64 0, .string ⟨#[]⟩, .int .i64 0, .int .i64 0, .int .i64 0, .int .i64 0, .slice none 0 0, .slice none 0 0, .int .i64 0]
  have hb : Below w.heap.size w (w.alloc (.cells #[.int .i64 0, .int .i64 0, .int .i64 0, .int .i64 0, .int .i64 0, .int .i64 0, .int .i64 0, .int .i64 0, .int .i64 0, .int .i64 0, .bool false, .int .i64 0, .int .i64 0, .int .i64 0, .int .i64 0, .int .i64 0, .int .i64 0, .int .i64 0, .int .i64 0, .int .i64 0, .string ⟨#[]⟩, .int .i64 0, .int .i64 0, .int .i64 0, .int .i64 0, .slice none 0 0, .slice none 0 0, .int .i64 0] 58)) := (Below.refl w.heap.size w).alloc (Nat.le_refl _) _
  have hWs : w.heap.size + 1 ≤ (w.alloc (.cells #[.int .i64 0, .int .i64 0, .int .i64 0, .int .i64 0, .int .i64 0, .int .i64 0, .int .i64 0, .int .i64 0, .int .i64 0, .int .i64 0, .bool false, .int .i64 0, .int .i64 0, .int .i64 0, .int .i64 0, .int .i64 0, .int .i64 0, .int .i64 0, .int .i64 0, .int .i64 0, .string ⟨#[]⟩, .int .i64 0, .int .i64 0, .int .i64 0, .int .i64 0, .slice none 0 0, .slice none 0 0, .int .i64 0] 58)).heap.size := by simp
  change Code.wp _ _ _ _ (w.alloc (.cells #[.int .i64 0, .int .i64 0, .int .i64 0, .int .i64 0, .int .i64 0, .int .i64 0, .int .i64 0, .int .i64 0, .int .i64 0, .int .i64 0, .bool false, .int .i64 0, .int .i64 0, .int .i64 0, .int .i64 0, .int .i64 0, .int .i64 0, .int .i64 0, .int .i64 0, .int .i64 0, .string ⟨#[]⟩, .int .i64 0, .int .i64 0, .int .i64 0, .int .i64 0, .slice none 0 0, .slice none 0 0, .int .i64 0] 58))
  generalize w.alloc (.cells #[.int .i64 0, .int .i64 0, .int .i64 0, .int .i64 0, .int .i64 0, .int .i64 0, .int .i64 0, .int .i64 0, .int .i64 0, .int .i64 0, .bool false, .int .i64 0, .int .i64 0, .int .i64 0, .int .i64 0, .int .i64 0, .int .i64 0, .int .i64 0, .int .i64 0, .int .i64 0, .string ⟨#[]⟩, .int .i64 0, .int .i64 0, .int .i64 0, .int .i64 0, .slice none 0 0, .slice none 0 0, .int .i64 0] 58) = W at *
  obtain ⟨D, hDD⟩ : ∃ D, D = w.heap.size := ⟨_, rfl⟩
  have hDw : w.heap.size ≤ D := Nat.le_of_eq hDD.symm
  rw [← hDD] at hD ⊢
  clear hDD hWs
  go_wp2_with fail
  refine (mconfig_any (by exact h.below hb)).mono ?_
  rintro en w2 ⟨A, cap, rfl, hC, b2⟩
  have hD := hD.below b2
  have hb := below_step hb b2
  clear b2
  obtain ⟨cs, hcs⟩ : ∃ cs, cs = tellC dst till V.cf.epoch (.slice A V.cf.chain.length cap) := ⟨_, rfl⟩
  have hlen : cs.length = 28 := by rw [hcs]; rfl
  have hone : cs.toArray.all (·.oneCell') = true := by rw [hcs]; simp [tellC, Value.oneCell']
  have hl2 : cs.length = ([.int .i64 0, .int .i64 0, .int .i64 0, .int .i64 0, .int .i64 0, .int .i64 0, .int .i64 0, .int .i64 0, .int .i64 0, .int .i64 0, .bool false, .int .i64 0, .int .i64 0, .int .i64 0, .int .i64 0, .int .i64 0, .int .i64 0, .int .i64 0, .int .i64 0, .int .i64 0, .string ⟨#[]⟩, .int .i64 0, .int .i64 0, .int .i64 0, .int .i64 0, .slice none 0 0, .slice none 0 0, .int .i64 0] : List Value).length := by rw [hlen]; rfl
  have HM2 := Lib.hid (hD.stored (vs := cs) hl2)
  have HT2 := Lib.hid (mblk_there2 hD hl2)
  have G := grown_setCells D cs 0 w2
  have HB2 := Lib.hid (grown_below hb G hDw)
  have HC2 := Lib.hid (ChainAt.grownS hC G (cells_not hD.kind (by decide)))
  have HCS := Lib.hid hcs
  clear hD hb G hl2 hC h
  go_wp2_with (refine wpList_store_mid rfl 58 (.tmp 6) (.tmp 11) rfl D 0 cs.toArray rfl (by rw [HCS.out]; rfl) (by exact HT2.out) (by rw [List.size_toArray, hlen]; exact mmsg_info) hone ?_; rw [List.toList_toArray])
  exact bodyPost_ret (v := .agg cs.toArray) (results_cell_row rfl _ _ D 58 cs.toArray (0, 0) _ rfl HM2.out Tryz.underlying58 rfl (by rw [List.size_toArray, hlen]; exact mmsg_info)) rfl ⟨_, rfl, ⟨A, cap, HCS.out, HC2.out⟩, HB2.out⟩
end Go.Proofs.YtomfmejodmfioaaGreat
namespace Go.Proofs.YtomfmejodmfioaaGreat
open Go.RowKit Go.Maps Go.ChangeShapes Go.WideShapes Go.Joins Go.Deep
set_option linter.unusedVariables false


/-! ### messages -/
def msgZ : List Value := tellC 0 0 0 (.slice none 0 0)
theorem mmsg_full : (Tryz.prog.info? 58).map (fun i => (i.zero, i.size, i.bytes)) = some (some (.agg ((Value.int .i64 0) :: msgZ.tail).toArray), 28, 264) := by kernel_rfl
theorem foldM_from (cs : List Value) : ∀ (k : Nat) (init : Array Value) (pre rest : List Value), init.toList = pre ++ rest → pre.length = k → rest.length = cs.length →
    List.foldl (fun (a : Array Value) (x : Value × Nat) => a.setIfInBounds x.snd x.fst) init (cs.zipIdx k) = (pre ++ cs).toArray := by
  induction cs with
  | nil =>
    intro k init pre rest h1 h2 h3
    have : rest = [] := List.length_eq_zero_iff.1 (by simpa using h3)
    subst this
    simp only [List.zipIdx_nil, List.foldl_nil]
    rw [← h1]
  | cons c cs ih =>
    intro k init pre rest h1 h2 h3
    match rest, h3 with
    | r :: rest, h3 =>
      rw [List.zipIdx_cons, List.foldl_cons]
      have h4 := ih (k + 1) (init.setIfInBounds k c) (pre ++ [c]) rest (by
        rw [Array.toList_setIfInBounds, h1, List.set_append_right _ _ (by omega)]
        simp [h2]) (by simp [h2]) (by simpa using h3)
      rw [h4]
      simp
theorem foldM_cells {cs : List Value} {init : Array Value} (h : init.size = cs.length) : List.foldl (fun (a : Array Value) (x : Value × Nat) => a.setIfInBounds x.snd x.fst) init cs.zipIdx = cs.toArray := by
  have := foldM_from cs 0 init [] init.toList rfl rfl (by simpa using h)
  simpa using this
/-- A row of the call's own from block B on: messages that tell the chain c to these, with leases until then. -/
def MsgsS (B : Nat) (w : World) (v : Value) (L : List (Int × Int)) (c : ConfV) : Prop :=
  ∃ css : List (List Value), css.length = L.length ∧ w.ownsRow B 58 28 v L.length css.flatten ∧ ∀ (i : Nat) (m : Int × Int) (cs : List Value), L[i]? = some m → css[i]? = some cs → SaidV w cs m c
theorem MsgsS.nil (B : Nat) (w : World) (c : ConfV) : MsgsS B w (.slice none 0 0) [] c := ⟨[], rfl, World.ownsRow_nil _ _ _ _, by simp⟩
theorem MsgsS.below {B : Nat} {w w' : World} {v : Value} {L : List (Int × Int)} {c : ConfV} (h : MsgsS B w v L c) (hb : Below w.heap.size w w') : MsgsS B w' v L c := by
  obtain ⟨css, h1, h2, h3⟩ := h
  exact ⟨css, h1, own_below' h2 hb, fun i m cs hi hc => (h3 i m cs hi hc).below hb⟩
theorem MsgsS.form {B : Nat} {w : World} {v : Value} {L : List (Int × Int)} {c : ConfV} (h : MsgsS B w v L c) : ∃ A cap, v = .slice A L.length cap := by
  obtain ⟨css, h1, h2, h3⟩ := h
  rcases h2.2 with ⟨rfl, h0⟩ | ⟨g, cap, cur, rfl, _⟩
  · exact ⟨none, 0, by rw [h0]⟩
  · exact ⟨_, _, rfl⟩
theorem MsgsS.mono {B B' : Nat} {w : World} {v : Value} {L : List (Int × Int)} {c : ConfV} (h : MsgsS B w v L c) (hb : B' ≤ B) : MsgsS B' w v L c := by
  obtain ⟨css, h1, ⟨h2, h4⟩, h3⟩ := h
  refine ⟨css, h1, ⟨h2, ?_⟩, h3⟩
  rcases h4 with h4 | ⟨g, cap, cur, hv, hg, hr⟩
  · exact .inl h4
  · exact .inr ⟨g, cap, cur, hv, Nat.le_trans hb hg, hr⟩
theorem own_kindM {w : World} {B size n : Nat} {e : TypeId} {v : Value} {xs : List Value} (h : w.ownsRow B e size v n xs) : ∀ j, v.ownBlock = some j → IsCells w j e := fun j hj => by
  rcases h.2 with ⟨rfl, _⟩ | ⟨g, cap, cur, rfl, _, hg, _⟩
  · simp [Value.ownBlock] at hj
  · simp only [Value.ownBlock, Option.some.injEq] at hj
    subst hj
    exact ⟨_, _, hg⟩
theorem own_fk {B0 B x N n size : Nat} {w w' : World} {v : Value} {e : TypeId} {xs : List Value} {b : MBlk} {V : MstV} {l : List UInt8} (hC : w.ownsRow B0 e size v n xs) (h : MAt B w x b N V l) (hk : FK (b.list x) B w w') (h1 : e ≠ 87) (h2 : e ≠ 114) (h3 : e ≠ 144) (h4 : e ≠ 5) : w'.ownsRow B0 e size v n xs := by
  have hkd := own_kindM hC
  obtain ⟨h5, h6⟩ := hC
  refine ⟨h5, ?_⟩
  rcases h6 with h6 | ⟨g, cap, cur, rfl, hg, hr, hrest⟩
  · exact .inl h6
  · have hc := hkd g rfl
    exact .inr ⟨g, cap, cur, rfl, hg, (hk.at hc (h.not hc h1 h2 h3) h4).trans hr, hrest⟩
theorem MsgsS.fk {B0 B x N : Nat} {w w' : World} {v : Value} {L : List (Int × Int)} {c : ConfV} {b : MBlk} {V : MstV} {l : List UInt8} (h : MsgsS B0 w v L c) (hM : MAt B w x b N V l) (hk : FK (b.list x) B w w') : MsgsS B0 w' v L c := by
  obtain ⟨css, h1, h2, h3⟩ := h
  refine ⟨css, h1, own_fk h2 hM hk (by decide) (by decide) (by decide) (by decide), fun i m cs hi hc => ?_⟩
  obtain ⟨A, cap, h4, h5⟩ := h3 i m cs hi hc
  exact ⟨A, cap, h4, h5.fk hM hk⟩
theorem ChainS.grownR {w w' : World} {v : Value} {L : List SeatV} {r : Option Nat} {T : TypeId} (h : ChainS w v L) (hg : w.grownBy w' r) (hr : ∀ j, r = some j → IsCells w j T) (hT : T ≠ 49) : ChainS w' v L := by
  cases r with
  | none => exact h.below ⟨hg.os, hg.tape, hg.output, hg.size, fun k hk => hg.block k hk (by simp)⟩
  | some j => exact ChainAt.grownS h hg (cells_not (hr j rfl) (Ne.symm hT))
/-- One more. -/
theorem MsgsS.snoc {B : Nat} {w w' : World} {v v' : Value} {L : List (Int × Int)} {c : ConfV} {m : Int × Int} {cs : List Value} {css : List (List Value)} (h1 : css.length = L.length) (h2 : w.ownsRow B 58 28 v L.length css.flatten) (h3 : ∀ (i : Nat) (m : Int × Int) (cs : List Value), L[i]? = some m → css[i]? = some cs → SaidV w cs m c)
    (hs : SaidV w cs m c) (hg : w.grownBy w' v.ownBlock) (ho : w'.ownsRow B 58 28 v' (L.length + 1) (css.flatten ++ cs)) : MsgsS B w' v' (L ++ [m]) c := by
  have hkd : ∀ j, v.ownBlock = some j → IsCells w j 58 := own_kindM h2
  have key : ∀ (cs : List Value) (m : Int × Int), SaidV w cs m c → SaidV w' cs m c := by
    rintro cs m ⟨A, cap, h4, h5⟩
    exact ⟨A, cap, h4, ChainS.grownR h5 hg hkd (by decide)⟩
  refine ⟨css ++ [cs], by simp [h1], by rw [List.length_append]; simpa using ho, fun i k ds hi hd => ?_⟩
  rcases Nat.lt_or_ge i L.length with h | h
  · rw [List.getElem?_append_left h] at hi
    rw [List.getElem?_append_left (by omega)] at hd
    exact key _ _ (h3 i k ds hi hd)
  · rw [List.getElem?_append_right h] at hi
    rw [List.getElem?_append_right (by omega)] at hd
    have h0 : i - L.length = 0 := by
      have := (List.getElem?_eq_some_iff.1 hi).1
      simp at this
      omega
    rw [h0] at hi
    rw [show i - css.length = 0 by omega] at hd
    simp at hi hd
    subst hi hd
    exact key _ _ hs
set_option maxRecDepth 100000 in
set_option maxHeartbeats 8000000 in

theorem mann_any {B x N : Nat} {w : World} {b : MBlk} {V : MstV} {l : List UInt8} (h : MAt B w x b N V l) {now : Int} (ht : TOk now) (hN : N ≤ 900000000) :
    Calls Tryz.prog 59 #[.pointer (some ⟨x, 0, none⟩), .int .i64 now] w fun en w' => ∃ v, en = .returned v ∧ MsgsS w.heap.size w' v (annL V now) V.cf ∧ MAt B w' x b (N + 8) (annM V now) l ∧ FK (b.list x) B w w' := by
  obtain ⟨i0, hi0, hz0, hz1, hz2⟩ := info_parts mmsg_full
  have hl8 := right_len h.ok.right
  have hsu := h.ok.susp
  have hrs : Hid (∀ s ∈ V.cf.chain, ∃ n : Nat, n < 8 ∧ s.node = n ∧ 1 ≤ s.life ∧ s.life ≤ 1099511627776) := Lib.hid (fun s hs => right_seat h.ok.right hs)
  obtain ⟨G, hGd⟩ : ∃ G, lateM V now = G := ⟨_, rfl⟩
  have hAM : Hid (annM V now = { V with til := V.cf.chain.foldl (grantS V G now) V.til }) := Lib.hid (by rw [← hGd]; rfl)
  have hAL : Hid (annL V now = V.cf.chain.map (tellS V G now)) := Lib.hid (by rw [← hGd]; rfl)
  go_enter Tryz.func59, Tryz.ntmps59
  go_wp2_with fail
  refine (mlate_any (by exact h) ht hGd).mono ?_
  rintro en w1 ⟨v0, rfl, hG, b1⟩
  obtain ⟨GA, Gcap, rfl⟩ := hG.form
  have hM := h.below b1
  have HB1 := Lib.hid b1
  clear h b1 hGd
  obtain ⟨A, cap, hC, c8, c9⟩ := hM.conf
  have HC := Lib.hid hC
  have HM1 := Lib.hid hM
  clear c8 hC
  go_wp2_with fail
  clear c9
  go_loopw [4, 18] (fun lv i wr => ∃ (k : Nat), k ≤ V.cf.chain.length ∧ i = .int .i64 k ∧ MAt B wr x b (N + k) { V with til := (V.cf.chain.take k).foldl (grantS V G now) V.til } l ∧ MsgsS w1.heap.size wr lv ((V.cf.chain.take k).map (tellS V G now)) V.cf ∧ MemsO w.heap.size wr (.slice GA G.length Gcap) G ∧ FK (b.list x) B w1 wr) (fun _ i _ => V.cf.chain.length - (intOf i).toNat)
  case atStart => exact ⟨0, Nat.zero_le _, rfl, hM, MsgsS.nil _ _ _, hG, FK.refl _ _ _⟩
  case round =>
    obtain ⟨k, hk, rfl, hMr, hS, hGr, hF⟩ := hrel
    clear hM hG
    have hM := hMr
    have hG := hGr
    clear hMr hGr
    by_cases hlt' : k < V.cf.chain.length
    · have hCr := HC.out.fk HM1.out hF
      obtain ⟨_, _, hqq, hs⟩ := hCr.1
      cases hqq
      obtain ⟨q, off, rfl, hab, hc⟩ := hs.2.2 (by omega)
      obtain ⟨s, hs'⟩ : ∃ s, V.cf.chain[k]? = some s := ⟨_, List.getElem?_eq_getElem hlt'⟩
      obtain ⟨s0, s1, s2⟩ := hc k s hs'
      obtain ⟨n, hn8, hn, hl1, hl2⟩ := hrs.out s (List.mem_of_getElem? hs')
      have HSN := Lib.hid (grant_snoc V G now V.til hs')
      have HTN := Lib.hid (tells_snoc V G now hs')
      obtain ⟨x0, y, z⟩ := s
      simp only at s0 s1 s2 hn hl1 hl2 HSN HTN
      subst hn
      clear hc hs' hs hCr
      have hPl : ((V.cf.chain.take k).map (tellS V G now)).length ≤ 8 := by rw [List.length_map, List.length_take]; omega
      generalize (V.cf.chain.take k).foldl (grantS V G now) V.til = f at *
      generalize (V.cf.chain.take k).map (tellS V G now) = P at *
      have hb := Below.refl wr.heap.size wr
      go_upto_region 5 with (fail)
      have hP := BlkAt.new wr 49 [.int .i64 (n : Nat), .int .i64 y, .bool z]
      replace hM := hM.below ((Below.refl _ _).alloc (Nat.le_refl _) (.cells #[.int .i64 (n : Nat), .int .i64 y, .bool z] 49))
      replace hS := hS.below ((Below.refl _ _).alloc (Nat.le_refl _) (.cells #[.int .i64 (n : Nat), .int .i64 y, .bool z] 49))
      replace hG := hG.below ((Below.refl _ _).alloc (Nat.le_refl _) (.cells #[.int .i64 (n : Nat), .int .i64 y, .bool z] 49))
      replace hb := hb.alloc hb.size (.cells #[.int .i64 (n : Nat), .int .i64 y, .bool z] 49)
      change Code.wp _ _ _ _ (wr.alloc (.cells #[.int .i64 (n : Nat), .int .i64 y, .bool z] 49))
      change BlkAt (wr.alloc (.cells #[.int .i64 (n : Nat), .int .i64 y, .bool z] 49)) _ _ _ at hP
      have hPn := (show wr.heap.size ≤ wr.heap.size from Nat.le_refl _)
      generalize wr.alloc (.cells #[.int .i64 (n : Nat), .int .i64 y, .bool z] 49) = w3 at *
      generalize wr.heap.size = X at hP ⊢
      clear hPn
      clear s0 s1 s2
      have hFq := hF.same (FK.of_below hb)
      clear hF hb
      have hF := hFq
      clear hFq
      have p0 : w3.cell? ⟨X, 0, none⟩ = some (.int .i64 (n : Nat)) := hP.cell rfl
      have p1 : w3.cell? ⟨X, 1, none⟩ = some (.int .i64 y) := hP.cell rfl
      have p2 : w3.cell? ⟨X, 2, none⟩ = some (.bool z) := hP.cell rfl
      go_wp2_with fail
      refine (contmem_any (by exact hG.v) (n : Nat) y).mono ?_
      rintro en w4 ⟨rfl, b4⟩
      clear p0 p1 p2
      have hMq := hM.below b4
      have hPq := hP.below b4
      have hSq := hS.below b4
      have hGq := hG.below b4
      have hFq := hF.same (FK.of_below b4)
      clear hM hP hS hG hF b4
      have hM := hMq
      have hP := hPq
      have hS := hSq
      have hG := hGq
      have hF := hFq
      clear hMq hPq hSq hGq hFq
      cases hq : G.contains (((n : Nat) : Int), y) with
      | true =>
        have HE1 : Hid (grantS V G now f ⟨(n : Nat), y, z⟩ = f) := Lib.hid (by unfold grantS; exact if_pos hq)
        have HE2 : Hid (tellS V G now ⟨(n : Nat), y, z⟩ = (((n : Nat) : Int), 0)) := Lib.hid (by unfold tellS; exact congrArg (Prod.mk _) (if_pos hq))
        have p0 : w4.cell? ⟨X, 0, none⟩ = some (.int .i64 (n : Nat)) := hP.cell rfl
        have p1 : w4.cell? ⟨X, 1, none⟩ = some (.int .i64 y) := hP.cell rfl
        have p2 : w4.cell? ⟨X, 2, none⟩ = some (.bool z) := hP.cell rfl
        go_wp2_with fail
        refine (mtell_any (by exact hM) (n : Nat) (0)).mono ?_
        rintro en w8 ⟨cs, rfl, hsaid, b8⟩
        clear p0 p1 p2
        have hMq := hM.below b8
        have hPq := hP.below b8
        have hSq := hS.below b8
        have hGq := hG.below b8
        have hFq := hF.same (FK.of_below b8)
        clear hM hP hS hG hF b8
        have hM := hMq
        have hP := hPq
        have hS := hSq
        have hG := hGq
        have hF := hFq
        clear hMq hPq hSq hGq hFq
        obtain ⟨css, hs1, hs2, hs3⟩ := hS
        obtain ⟨SA, Scap, rfl⟩ := own_form' hs2
        have hcl := hsaid.len
        have hcone := hsaid.one
        go_wp2_with (at_builtin; refine wpList_append_lies _ rfl (.tmp 42) (.tmp 49) 45 rfl w1.heap.size 58 i0 _ 28 264 Tryz.underlying45 hi0 hz0 hz1 hz2 rfl (by omega) _ _ _ rfl (own_below' hs2 ((Below.refl _ _).alloc (Nat.le_refl _) _)) ⟨w8.heap.size, 0, none⟩ 1 1 cs rfl (by rw [hcl]) ?c1 ?c2 (by omega) ?c3 ?c4 ?c5 (w8.heap.size + 1) (by simp) ?_)
        case c1 =>
          intro j u hj
          refine World.news_of_block (heap_alloc_new _ _) j u ?_
          rw [foldM_cells (by rw [hcl]; rfl)]
          simpa using hj
        case c2 => exact hcone
        case c3 => unfold maxLen; omega
        case c4 => omega
        case c5 => have := hF.size; first | omega | (simp; omega)
        intro g9 cap9 w9 hown9 hg9 hat9 hlt9
        rw [foldM_cells (by rw [hcl]; rfl)] at hg9
        have hal := (Below.refl w8.heap.size w8).alloc (Nat.le_refl _) (.cells cs.toArray 58)
        have hs2a := own_below' hs2 hal
        have hkd := own_kindM hs2a
        have HM9 := Lib.hid ((hM.below hal).other hg9 hkd (by decide) (by decide) (by decide) (by decide) (by decide))
        have HS9 := Lib.hid (MsgsS.snoc (c := V.cf) hs1 hs2a (fun i m cs hi hc => (hs3 i m cs hi hc).below hal) (hsaid.below hal) hg9 hown9)
        have HG9 : Hid (MemsO w.heap.size w9 (.slice GA G.length Gcap) G) := Lib.hid ((hG.below hal).kept hg9 (by
          rcases ho : (Value.slice GA G.length Gcap).ownBlock with _ | o
          · exact .inl rfl
          · refine .inr fun e => cells_ne ((hG.below hal).kind o ho) (hkd o e.symm) (by decide) rfl))
        have hrow9 : ∀ j, (Value.slice SA _ Scap).ownBlock = some j → w1.heap.size ≤ j := fun j hj => (hs2.lt j hj).1
        have HF9 : Hid (FK (b.list x) B w1 w9) := Lib.hid ⟨hg9.os.trans (hal.os.trans hF.os), hg9.tape.trans (hal.tape.trans hF.tape), hg9.output.trans (hal.output.trans hF.output), Nat.le_trans hF.size (Nat.le_trans hal.size hg9.size), fun q hq hn hu => (hg9.block q (Nat.lt_of_lt_of_le hq (Nat.le_trans hF.size hal.size)) (fun e => by have := hrow9 q e.symm; omega)).trans ((hal.block q (Nat.lt_of_lt_of_le hq hF.size)).trans (hF.block q hq hn hu))⟩
        clear hM hP hG hF hs1 hs2 hs3 hs2a hkd hal hown9 hg9 hat9 hlt9 hsaid hcl hcone hrow9
        go_wp2_with fail
        go_roundw
        case rel => exact ⟨k + 1, by omega, by go_num, by rw [HSN.out, HE1.out]; exact HM9.out.mono (by omega), by rw [HTN.out, HE2.out]; exact HS9.out, HG9.out, HF9.out⟩
        case measure => simp [intOf]; omega
      | false =>
        have hwr : IntKind.i64.wrap (now + V.s.lease) = now + V.s.lease := by rw [IntKind.wrap_i64]; unfold TOk at ht; omega
        have HE1 : Hid (grantS V G now f ⟨(n : Nat), y, z⟩ = grantI f (n : Nat) y (now + V.s.lease)) := Lib.hid (by unfold grantS; exact (if_neg (by show ¬ G.contains (((n : Nat) : Int), y) = true; rw [hq]; simp)).trans rfl)
        have HE2 : Hid (tellS V G now ⟨(n : Nat), y, z⟩ = (((n : Nat) : Int), now + V.s.lease)) := Lib.hid (by unfold tellS; exact congrArg (Prod.mk _) (if_neg (by show ¬ G.contains (((n : Nat) : Int), y) = true; rw [hq]; simp)))
        have c3 : w4.cell? ⟨x, 3, none⟩ = some (.int .i64 V.s.lease) := hM.low (V := { V with til := f }) rfl
        go_upto_region 8 with (fail)
        clear c3
        have bd : Below w4.heap.size w4 w4.drew := below_drewN (Below.refl _ _) 1
        have hMq := hM.below bd
        have hPq := hP.below bd
        have hSq := hS.below bd
        have hGq := hG.below bd
        have hFq := hF.same (FK.of_below bd)
        clear hM hP hS hG hF bd
        have hM := hMq
        have hP := hPq
        have hS := hSq
        have hG := hGq
        have hF := hFq
        clear hMq hPq hSq hGq hFq
        generalize now + V.s.lease = tl at *
        refine wp_region_noPanic ?_
        refine wp_region_held_drew (S := (fun w' => w'.cell? ⟨X, 0, none⟩ = some (.int .i64 (n : Nat)) ∧ w'.cell? ⟨X, 1, none⟩ = some (.int .i64 y) ∧ w'.cell? ⟨x, 10, none⟩ = some (.pointer (some ⟨b.bk, 0, none⟩)))) (by kernel_rfl) (by exact ⟨hP.cell rfl, hP.cell rfl, hM.low rfl⟩) (fun hHeld => ?_)
        refine wtk 0 hHeld ?_
        refine wtk 1 hHeld ?_
        refine wtk 2 hHeld ?_
        refine wtk 3 hHeld ?_
        refine wtk 4 hHeld ?_
        refine wtk 5 hHeld ?_
        refine wtk 6 hHeld ?_
        refine wpAnyH_ready (rs := [7]) (by kernel_rfl) (by simp) (AllReadyH.cons (o := ?oq_1_7) ?op_1_7 (fun K hK => ?re_1_7) AllReadyH.nil)
        case op_1_7 => (simp only [List.getElem?_toArray, List.getElem?_cons_succ, List.getElem?_cons_zero]; rfl)
        go_simp
        go_at_call 84
        refine (lgrant_any (n := N + k) (by exact hM.book) (by unfold maxLen; omega) (w64_nat hn8) (w64_life ⟨hl1, hl2⟩)).mono ?_
        rintro en w6 ⟨⟨gq, rfl⟩, hB6, hg6⟩
        have hg6 : w4.drew.grownBy w6 (some b.um) := ⟨hg6.os, hg6.tape, hg6.output, hg6.size, hg6.block⟩
        have hfk6 := FK.of_grown (B := B) hg6 (MAt.mem (b := b) (x := x) b.um (by simp))
        have hMq := MAt.putUm (V := { V with til := f }) hM (Nat.le_succ (N + k)) hg6 hB6
        have hPq := hP.fk hM hfk6 (by decide) (by decide) (by decide) (by decide)
        have hSq := hS.fk hM hfk6
        have hGq := hG.fk hM hfk6
        have hFq := hF.same hfk6
        clear hM hP hS hG hF hB6 hg6 hfk6
        have hM := hMq
        have hP := hPq
        have hS := hSq
        have hG := hGq
        have hF := hFq
        clear hMq hPq hSq hGq hFq
        refine hK.out _ _ (by exact ⟨hP.cell rfl, hP.cell rfl, hM.low rfl⟩) (fun hHeld => ?_)
        clear hK K
        try simp only [Act.put, List.setIfInBounds_toArray, List.set_cons_zero, List.set_cons_succ]
        refine wpAnyH_done (by kernel_rfl) ?_ _
        refine NoPanic.normal ?_
        clear hHeld
        have p0 : w6.cell? ⟨X, 0, none⟩ = some (.int .i64 (n : Nat)) := hP.cell rfl
        have p1 : w6.cell? ⟨X, 1, none⟩ = some (.int .i64 y) := hP.cell rfl
        have p2 : w6.cell? ⟨X, 2, none⟩ = some (.bool z) := hP.cell rfl
        go_wp2_with fail
        refine (mtell_any (by exact hM) (n : Nat) (tl)).mono ?_
        rintro en w8 ⟨cs, rfl, hsaid, b8⟩
        clear p0 p1 p2
        have hMq := hM.below b8
        have hPq := hP.below b8
        have hSq := hS.below b8
        have hGq := hG.below b8
        have hFq := hF.same (FK.of_below b8)
        clear hM hP hS hG hF b8
        have hM := hMq
        have hP := hPq
        have hS := hSq
        have hG := hGq
        have hF := hFq
        clear hMq hPq hSq hGq hFq
        obtain ⟨css, hs1, hs2, hs3⟩ := hS
        obtain ⟨SA, Scap, rfl⟩ := own_form' hs2
        have hcl := hsaid.len
        have hcone := hsaid.one
        go_wp2_with (at_builtin; refine wpList_append_lies _ rfl (.tmp 42) (.tmp 49) 45 rfl w1.heap.size 58 i0 _ 28 264 Tryz.underlying45 hi0 hz0 hz1 hz2 rfl (by omega) _ _ _ rfl (own_below' hs2 ((Below.refl _ _).alloc (Nat.le_refl _) _)) ⟨w8.heap.size, 0, none⟩ 1 1 cs rfl (by rw [hcl]) ?c1 ?c2 (by omega) ?c3 ?c4 ?c5 (w8.heap.size + 1) (by simp) ?_)
        case c1 =>
          intro j u hj
          refine World.news_of_block (heap_alloc_new _ _) j u ?_
          rw [foldM_cells (by rw [hcl]; rfl)]
          simpa using hj
        case c2 => exact hcone
        case c3 => unfold maxLen; omega
        case c4 => omega
        case c5 => have := hF.size; first | omega | (simp; omega)
        intro g9 cap9 w9 hown9 hg9 hat9 hlt9
        rw [foldM_cells (by rw [hcl]; rfl)] at hg9
        have hal := (Below.refl w8.heap.size w8).alloc (Nat.le_refl _) (.cells cs.toArray 58)
        have hs2a := own_below' hs2 hal
        have hkd := own_kindM hs2a
        have HM9 := Lib.hid ((hM.below hal).other hg9 hkd (by decide) (by decide) (by decide) (by decide) (by decide))
        have HS9 := Lib.hid (MsgsS.snoc (c := V.cf) hs1 hs2a (fun i m cs hi hc => (hs3 i m cs hi hc).below hal) (hsaid.below hal) hg9 hown9)
        have HG9 : Hid (MemsO w.heap.size w9 (.slice GA G.length Gcap) G) := Lib.hid ((hG.below hal).kept hg9 (by
          rcases ho : (Value.slice GA G.length Gcap).ownBlock with _ | o
          · exact .inl rfl
          · refine .inr fun e => cells_ne ((hG.below hal).kind o ho) (hkd o e.symm) (by decide) rfl))
        have hrow9 : ∀ j, (Value.slice SA _ Scap).ownBlock = some j → w1.heap.size ≤ j := fun j hj => (hs2.lt j hj).1
        have HF9 : Hid (FK (b.list x) B w1 w9) := Lib.hid ⟨hg9.os.trans (hal.os.trans hF.os), hg9.tape.trans (hal.tape.trans hF.tape), hg9.output.trans (hal.output.trans hF.output), Nat.le_trans hF.size (Nat.le_trans hal.size hg9.size), fun q hq hn hu => (hg9.block q (Nat.lt_of_lt_of_le hq (Nat.le_trans hF.size hal.size)) (fun e => by have := hrow9 q e.symm; omega)).trans ((hal.block q (Nat.lt_of_lt_of_le hq hF.size)).trans (hF.block q hq hn hu))⟩
        clear hM hP hG hF hs1 hs2 hs3 hs2a hkd hal hown9 hg9 hat9 hlt9 hsaid hcl hcone hrow9
        go_wp2_with fail
        go_roundw
        case rel => exact ⟨k + 1, by omega, by go_num, by rw [HSN.out, HE1.out]; exact HM9.out.mono (by omega), by rw [HTN.out, HE2.out]; exact HS9.out, HG9.out, HF9.out⟩
        case measure => simp [intOf]; omega
    · have hke : k = V.cf.chain.length := by omega
      subst hke
      rw [List.take_of_length_le (Nat.le_refl _)] at hM hS
      obtain ⟨SA, Scap, rfl⟩ := hS.form
      have HM9 := Lib.hid hM
      have HS9 := Lib.hid hS
      clear hM hS hG
      go_wp2_with fail
      go_ret
      exact ⟨_, rfl, by rw [hAL.out]; exact HS9.out.mono HB1.out.size, by rw [hAM.out]; exact HM9.out.mono (by omega), (FK.of_below HB1.out).same hF⟩
end Go.Proofs.YtomfmejodmfioaaGreat
namespace Go.Proofs.YtomfmejodmfioaaGreat
open Go.RowKit Go.Maps Go.ChangeShapes Go.WideShapes Go.Joins Go.Deep
set_option linter.unusedVariables false

/-- What a call leaves that says messages. -/
def MRes (B : Nat) (w w' : World) (x : Nat) (b : MBlk) (N : Nat) (en : Ending) (L : List (Int × Int)) (V : MstV) (l : List UInt8) : Prop :=
  ∃ v b', en = .returned v ∧ MsgsS w.heap.size w' v L V.cf ∧ MAt B w' x b' N V l ∧ FK (b.list x) B w w' ∧ FNew w (b.list x) (b'.list x)
set_option maxRecDepth 100000 in
theorem mtick_nil (now : Int) (w : World) : Calls Tryz.prog 26 #[.pointer none, .int .i64 now] w fun e w' => e = .returned (.slice none 0 0) ∧ w = w' := by
  go_enter Tryz.func26, Tryz.ntmps26
  go_wp2_with fail
  go_ret
  exact ⟨rfl, rfl⟩
theorem wants_len {l : List UInt8} (V : MstV) (now : Int) (h : l.length ≤ 65536) : (turnM V l now).2.length ≤ 65536 := by
  unfold turnM
  split
  · split
    · exact writeS_len h
    · exact h
  · exact h
set_option maxRecDepth 100000 in
set_option maxHeartbeats 1000000 in

theorem mtick_any {B x N : Nat} {w : World} {b : MBlk} {V : MstV} {l : List UInt8} (h : MAt B w x b N V l) {now : Int} (ht : TOk now) (hN : N ≤ 800000000) (hl : l.length ≤ 65536) {V' : MstV} {l' : List UInt8} {L : List (Int × Int)} (hr : tickM V l now = (V', l')) (hL : annL (turnM V l now).1 now = L) :
    Calls Tryz.prog 26 #[.pointer (some ⟨x, 0, none⟩), .int .i64 now] w fun en w' => MRes B w w' x b (N + 400) en L V' l' := by
  have HV : Hid (V' = annM (turnM V l now).1 now) := Lib.hid (by unfold tickM at hr; exact (congrArg Prod.fst hr).symm)
  have Hl : Hid (l' = (turnM V l now).2) := Lib.hid (by unfold tickM at hr; exact (congrArg Prod.snd hr).symm)
  have HL := Lib.hid hL
  clear hr hL
  go_enter Tryz.func26, Tryz.ntmps26
  go_wp2_with fail
  refine (mturn_any (by exact h) ht hN hl).mono ?_
  rintro en w2 ⟨rfl, b', hM, hFK, hFN⟩
  clear h
  go_wp2_with fail
  refine (mann_any (by exact hM) ht (by omega)).mono ?_
  rintro en w3 ⟨v, rfl, hS, hM3, hFK3⟩
  obtain ⟨SA, Scap, rfl⟩ := hS.form
  have HS := Lib.hid hS
  have HM := Lib.hid hM3
  have HF := Lib.hid (hFK.trans hFN hFK3)
  have HSZ := Lib.hid hFK.size
  clear hM hFK hS hM3 hFK3
  go_wp2_with fail
  go_ret
  exact ⟨_, b', rfl, by rw [← HL.out, HV.out]; exact HS.out.mono HSZ.out, by rw [HV.out, Hl.out]; exact HM.out.mono (by omega), HF.out, hFN⟩
end Go.Proofs.YtomfmejodmfioaaGreat
namespace Go.Proofs.YtomfmejodmfioaaGreat
open Go.RowKit Go.Maps Go.ChangeShapes Go.WideShapes Go.Joins Go.Deep
set_option linter.unusedVariables false


/-- One message in a new row. -/
theorem msgs_one {B : Nat} {w' : World} {g : Nat} {cs : List Value} {m : Int × Int} {c : ConfV} (hs : SaidV w' cs m c) (hg : w'.heap[g]? = some (.cells cs.toArray 58 (0, 0))) (hB : B ≤ g) : MsgsS B w' (.slice (some ⟨g, 0, none⟩) 1 1) [m] c := by
  have hl := hs.len
  refine ⟨[cs], rfl, ⟨by simp [hl], .inr ⟨g, 1, cs.toArray, rfl, hB, hg, Nat.le_refl _, by unfold maxLen; omega, by simp [hl], by simp [List.take_of_length_le (Nat.le_of_eq hl)]⟩⟩, fun i k ds hi hd => ?_⟩
  match i, hi, hd with
  | 0, hi, hd =>
    simp at hi hd
    subst hi hd
    exact hs
set_option maxRecDepth 100000 in
set_option maxHeartbeats 1000000 in

theorem mwhere_no {w : World} {mb : Nat} {T : TypeId} {ms : List Value} (x : Nat) (now : Int) {n : Int} (hm : BlkAt w mb T ms) (h2 : ms[2]? = some (.int .i64 n)) (hn : n < 100) :
    Calls Tryz.prog 57 #[.pointer (some ⟨x, 0, none⟩), .pointer (some ⟨mb, 0, none⟩), .int .i64 now] w fun en w' => en = .returned (.slice none 0 0) ∧ w = w' := by
  have c2 : w.cell? ⟨mb, 2, none⟩ = some (.int .i64 n) := hm.cell h2
  go_enter Tryz.func57, Tryz.ntmps57
  go_wp2_with fail
  go_ret
  exact ⟨rfl, rfl⟩
set_option maxRecDepth 100000 in
set_option maxHeartbeats 1000000 in

theorem mwhere_any {B x N : Nat} {w : World} {b : MBlk} {V : MstV} {l : List UInt8} (h : MAt B w x b N V l) {mb : Nat} {T : TypeId} {ms : List Value} (now : Int) {n : Int} (hm : BlkAt w mb T ms) (h2 : ms[2]? = some (.int .i64 n)) (hn : ¬ n < 100) :
    Calls Tryz.prog 57 #[.pointer (some ⟨x, 0, none⟩), .pointer (some ⟨mb, 0, none⟩), .int .i64 now] w fun en w' => ∃ v, en = .returned v ∧ MsgsS w.heap.size w' v [(n, 0)] V.cf ∧ Below w.heap.size w w' := by
  have c2 : w.cell? ⟨mb, 2, none⟩ = some (.int .i64 n) := hm.cell h2
  clear hm
  go_enter Tryz.func57, Tryz.ntmps57
  go_wp2_with fail
  refine (mtell_any (by exact h) n 0).mono ?_
  rintro en w2 ⟨cs, rfl, hs, b2⟩
  have hl := hs.len
  have HS := Lib.hid hs
  have HB := Lib.hid b2
  have HSZ := Lib.hid b2.size
  clear hs c2 b2
  go_wp2_with fail
  have hal := (Below.refl w2.heap.size w2).alloc (Nat.le_refl _) (.cells cs.toArray 58)
  rw [foldM_cells (by rw [hl]; rfl)]
  go_ret
  exact ⟨_, rfl, msgs_one (HS.out.below hal) (heap_alloc_new _ _) HSZ.out, below_step HB.out hal⟩
theorem mcells_lives {b : MBlk} {v : Value} {V : MstV} (hl : V.lives.length = 8) {k : Nat} (hk : k < 8) (lf : Int) : (mcells b v V).set (12 + k) (.int .i64 lf) = mcells b v { V with lives := V.lives.set k lf } := by
  unfold mcells
  rw [List.append_assoc, List.set_append_right _ _ (by simp), List.set_append_left _ _ (by simp; omega), List.append_assoc]
  simp [List.map_set]
theorem heard_no1 {V : MstV} {n lf : Int} (h : n < 0) : heardB V n lf = false := by unfold heardB; rw [decide_eq_false_iff_not]; omega
theorem heard_no2 {V : MstV} {n lf : Int} (h : V.s.nodes ≤ n) : heardB V n lf = false := by unfold heardB; rw [decide_eq_false_iff_not]; omega
theorem heard_no3 {V : MstV} {n lf : Int} (h : lf < max (V.life n) 1) : heardB V n lf = false := by unfold heardB; rw [decide_eq_false_iff_not]; omega
theorem heard_yes {V : MstV} {n lf : Int} (h1 : 0 ≤ n) (h2 : n < V.s.nodes) (h3 : max (V.life n) 1 ≤ lf) : heardB V n lf = true := by unfold heardB; rw [decide_eq_true_eq]; exact ⟨h1, h2, h3⟩
theorem beat_no {V : MstV} {l : List UInt8} {n lf now : Int} {b : BeatV} (h : heardB V n lf = false) : beatM V l n lf b now = (V, l) ∧ beatL V l n lf b now = [] := by simp [beatM, beatL, h]
theorem beat_yes {V : MstV} {l : List UInt8} {n lf now : Int} {b : BeatV} (h : heardB V n lf = true) : beatM V l n lf b now = turnM (hearM V n lf b) l now ∧ beatL V l n lf b now = if 0 ≤ placeC (turnM (hearM V n lf b) l now).1.cf.chain n lf then [] else [(n, 0)] := by simp [beatM, beatL, h]
set_option maxRecDepth 100000 in
set_option maxHeartbeats 8000000 in

theorem mbeat_any {B x N : Nat} {w : World} {b : MBlk} {V : MstV} {l : List UInt8} (h : MAt B w x b N V l) {mb : Nat} {ms : List Value} {now n lf : Int} {bt : BeatV} (hm : BlkAt w mb 58 ms) (h2 : ms[2]? = some (.int .i64 n)) (h3 : ms[3]? = some (.int .i64 lf)) (h4 : ms[4]? = some (.int .i64 bt.epoch)) (h5 : ms[5]? = some (.int .i64 bt.echo)) (h10 : ms[10]? = some (.bool bt.synced))
    (htm : bt.time = now) (hbok : BOk bt) (hnw : W64 n) (hlw : W64 lf) (ht : TOk now) (hN : N ≤ 700000000) (hl : l.length ≤ 65536) :
    Calls Tryz.prog 56 #[.pointer (some ⟨x, 0, none⟩), .pointer (some ⟨mb, 0, none⟩), .int .i64 now] w fun en w' => MRes B w w' x b (N + 400) en (beatL V l n lf bt now) (beatM V l n lf bt now).1 (beatM V l n lf bt now).2 := by
  have c2 : w.cell? ⟨mb, 2, none⟩ = some (.int .i64 n) := hm.cell h2
  have c3 : w.cell? ⟨mb, 3, none⟩ = some (.int .i64 lf) := hm.cell h3
  have hsu := h.ok.susp
  have hb := Below.refl w.heap.size w
  go_enter Tryz.func56, Tryz.ntmps56
  go_upto_region 2 with (fail)
  have hP := BlkAt.new w 42 [.int .i64 n, .int .i64 lf]
  replace hb := hb.alloc hb.size (.cells #[.int .i64 n, .int .i64 lf] 42)
  change Code.wp _ _ _ _ (w.alloc (.cells #[.int .i64 n, .int .i64 lf] 42))
  change BlkAt (w.alloc (.cells #[.int .i64 n, .int .i64 lf] 42)) _ _ _ at hP
  have hPn := (show w.heap.size ≤ w.heap.size from Nat.le_refl _)
  generalize w.alloc (.cells #[.int .i64 n, .int .i64 lf] 42) = w2 at *
  generalize w.heap.size = X at hP ⊢
  clear hPn
  clear c2 c3
  have p0 : w2.cell? ⟨X, 0, none⟩ = some (.int .i64 n) := hP.cell rfl
  have p1 : w2.cell? ⟨X, 1, none⟩ = some (.int .i64 lf) := hP.cell rfl
  have c0 : w2.cell? ⟨x, 0, none⟩ = some (.int .i64 V.s.nodes) := (h.below hb).low rfl
  by_cases hn0 : n < 0
  · skip
    have HN := Lib.hid (beat_no (l := l) (b := bt) (now := now) (heard_no1 (V := V) (lf := lf) hn0))
    go_quiet (fail)
    have hbd := below_drewN hb nq
    have HM := Lib.hid (h.below hbd)
    have HB := Lib.hid hbd
    clear hb hP p0 p1 c0 hbd h hm
    go_wp2_with fail
    go_ret
    exact ⟨_, b, rfl, by rw [HN.out.2]; exact MsgsS.nil _ _ _, by rw [HN.out.1]; exact HM.out.mono (by omega), FK.of_below HB.out, FNew.refl _ _⟩
  · by_cases hn1 : V.s.nodes ≤ n
    · skip
      have HN := Lib.hid (beat_no (l := l) (b := bt) (now := now) (heard_no2 (V := V) (lf := lf) hn1))
      go_quiet (fail)
      have hbd := below_drewN hb nq
      have HM := Lib.hid (h.below hbd)
      have HB := Lib.hid hbd
      clear hb hP p0 p1 c0 hbd h hm
      go_wp2_with fail
      go_ret
      exact ⟨_, b, rfl, by rw [HN.out.2]; exact MsgsS.nil _ _ _, by rw [HN.out.1]; exact HM.out.mono (by omega), FK.of_below HB.out, FNew.refl _ _⟩
    · obtain ⟨k, rfl⟩ : ∃ k : Nat, n = k := ⟨n.toNat, by omega⟩
      have hk8 : k < 8 := by omega
      have hk8' : (k : Int) < 8 := by omega
      have cl : w2.cell? ⟨x, 12 + k, none⟩ = some (.int .i64 (V.life k)) := lives_low (h.below hb) hk8
      by_cases hlf : lf < max (V.life k) 1
      · have hno := heard_no3 hlf
        by_cases hv1 : V.life k < 1
        · have hlf' : lf < 1 := by omega
          generalize V.life k = lv at *
          have HN := Lib.hid (beat_no (l := l) (b := bt) (now := now) (hno))
          go_quiet (fail)
          have hbd := below_drewN hb nq
          have HM := Lib.hid (h.below hbd)
          have HB := Lib.hid hbd
          clear hb hP p0 p1 c0 hbd h hm
          go_wp2_with fail
          go_ret
          exact ⟨_, b, rfl, by rw [HN.out.2]; exact MsgsS.nil _ _ _, by rw [HN.out.1]; exact HM.out.mono (by omega), FK.of_below HB.out, FNew.refl _ _⟩
        · have hlf' : lf < V.life k := by omega
          generalize V.life k = lv at *
          have HN := Lib.hid (beat_no (l := l) (b := bt) (now := now) (hno))
          go_quiet (fail)
          have hbd := below_drewN hb nq
          have HM := Lib.hid (h.below hbd)
          have HB := Lib.hid hbd
          clear hb hP p0 p1 c0 hbd h hm
          go_wp2_with fail
          go_ret
          exact ⟨_, b, rfl, by rw [HN.out.2]; exact MsgsS.nil _ _ _, by rw [HN.out.1]; exact HM.out.mono (by omega), FK.of_below HB.out, FNew.refl _ _⟩
      · have HY := Lib.hid (beat_yes (l := l) (b := bt) (now := now) (heard_yes (by omega) (by omega) (by omega) : heardB V (k : Nat) lf = true))
        have hq1 : ¬ lf < 1 := by omega
        have hq2 : ¬ lf < V.life k := by omega
        have hM0 := h.below hb
        have HMB := Lib.hid (hm.below hb)
        have HB0 := Lib.hid hb
        have hmlt := hm.lt
        clear h hm
        go_quiet (fail)
        have hMd := hM0.drewN nq
        have hPd : BlkAt (w2.drewN nq) X 42 [.int .i64 (k : Nat), .int .i64 lf] := hP
        have HBd := Lib.hid (below_drewN HB0.out nq)
        have HMB2 : Hid (BlkAt (w2.drewN nq) mb 58 ms) := Lib.hid HMB.out
        clear hM0 hP hb p0 p1 c0 cl
        generalize w2.drewN nq = w3 at *
        have p0 : w3.cell? ⟨X, 0, none⟩ = some (.int .i64 (k : Nat)) := hPd.cell rfl
        have p1 : w3.cell? ⟨X, 1, none⟩ = some (.int .i64 lf) := hPd.cell rfl
        go_upto_region 4 with (fail)
        have cl : w3.cell? ⟨x, 12 + k, none⟩ = some (.int .i64 (V.life k)) := lives_low hMd hk8
        have clf : w3.frozen? ⟨x, 12 + k, none⟩ = false := by
          obtain ⟨v, hX, _⟩ := hMd.blk
          exact hX.free _
        refine still_tail 8 (by kernel_rfl) (by kernel_rfl) ?_
        simp only [List.take_succ_cons, List.take_zero, List.drop_succ_cons, List.drop_zero]
        repeat still_step
        refine wpStill_nil ?_
        change wpList _ _ _ _ _ _
        go_upto_region 5 with (fail)
        have g4 := grown_setCell w3 x (12 + k) (.int .i64 lf)
        have hM4 : MAt B (w3.setCell ⟨x, 12 + k, none⟩ (.int .i64 lf)) x b N { V with lives := V.lives.set k lf } l := by
          obtain ⟨v, hX, hC⟩ := hMd.blk
          refine MAt.putX (b' := b) (V' := { V with lives := V.lives.set k lf }) (v' := v) hMd g4 ?_ hC rfl rfl rfl rfl rfl hMd.since ⟨Ne.symm hMd.ne.2.2.1, Ne.symm hMd.ne.2.2.2.2.1, Ne.symm hMd.ne.2.2.2.2.2⟩ rfl rfl rfl rfl ⟨hMd.ok.set, hMd.ok.right, by simp [hMd.ok.len], fun u hu => ?_, hMd.ok.beats, hMd.ok.since⟩
          · rw [← mcells_lives hMd.ok.len hk8]
            exact hX.set (12 + k) _
          · rcases List.mem_or_eq_of_mem_set hu with h | h
            · exact hMd.ok.lives u h
            · rw [h]; exact hlw
        have hfk4 : FK (b.list x) B w3 (w3.setCell ⟨x, 12 + k, none⟩ (.int .i64 lf)) := FK.of_grown g4 (MAt.mem (b := b) (x := x) x (by simp))
        have hm4 := HMB2.out.fk hMd hfk4 (by decide) (by decide) (by decide) (by decide)
        have hP4 := hPd.fk hMd hfk4 (by decide) (by decide) (by decide) (by decide)
        have HF4 := Lib.hid ((FK.of_below (bs := b.list x) (B := B) HBd.out).same hfk4)
        have hM4 := hM4.drewN 1
        have hP4 : BlkAt (w3.setCell ⟨x, 12 + k, none⟩ (.int .i64 lf)).drew X 42 [.int .i64 (k : Nat), .int .i64 lf] := hP4
        have hm4 : BlkAt (w3.setCell ⟨x, 12 + k, none⟩ (.int .i64 lf)).drew mb 58 ms := hm4
        have HF4 : Hid (FK (b.list x) B w (w3.setCell ⟨x, 12 + k, none⟩ (.int .i64 lf)).drew) := Lib.hid (HF4.out.same (FK.of_below (below_drewN (Below.refl _ _) 1)))
        change MAt B (w3.setCell ⟨x, 12 + k, none⟩ (.int .i64 lf)).drew x b N _ l at hM4
        clear hMd hPd hfk4 g4 cl clf p0 p1
        generalize (w3.setCell ⟨x, 12 + k, none⟩ (.int .i64 lf)).drew = w4 at *
        have p0 : w4.cell? ⟨X, 0, none⟩ = some (.int .i64 (k : Nat)) := hP4.cell rfl
        have p1 : w4.cell? ⟨X, 1, none⟩ = some (.int .i64 lf) := hP4.cell rfl
        have m4 : w4.cell? ⟨mb, 4, none⟩ = some (.int .i64 bt.epoch) := hm4.cell h4
        have m5 : w4.cell? ⟨mb, 5, none⟩ = some (.int .i64 bt.echo) := hm4.cell h5
        have m10 : w4.cell? ⟨mb, 10, none⟩ = some (.bool bt.synced) := hm4.cell h10
        have c11 : w4.cell? ⟨x, 11, none⟩ = some (.map (some b.bm)) := hM4.low rfl
        refine still_tail 19 (by kernel_rfl) (by kernel_rfl) ?_
        simp only [List.take_succ_cons, List.take_zero, List.drop_succ_cons, List.drop_zero]
        repeat still_step
        refine wpStill_nil ?_
        change wpList _ _ _ _ _ _
        refine wpList_put_mem (by rfl) _ _ _ 84 (by rfl) 102 Tryz.underlying84 (by rfl) (hM4.beats.drew) (by unfold maxLen; omega) (k : Nat) lf (beatV bt) (by rfl) (by rw [show beatV bt = .agg #[.int .i64 now, .int .i64 bt.epoch, .bool bt.synced, .int .i64 bt.echo] by rw [← htm]; rfl]; rfl) hnw hlw ?_
        intro w5 hm5 hg5
        have hg : w4.grownBy w5 (some b.bm) := ⟨hg5.os, hg5.tape, hg5.output, hg5.size, hg5.block⟩
        have hfk5 : FK (b.list x) B w4 w5 := FK.of_grown hg (MAt.mem (b := b) (x := x) b.bm (by simp))
        have hM5 : MAt B w5 x b (N + 1) (hearM V (k : Nat) lf bt) l := by
          refine MAt.putBm (V := { V with lives := V.lives.set k lf }) (f := updM V.beats (k : Nat) lf (some bt)) hM4 (by omega) hg ?_ (fun a c b' h' => ?_)
          · have := hm5
            rw [beatsV_upd] at this
            exact this
          · by_cases e : a = (k : Nat) ∧ c = lf
            · obtain ⟨rfl, rfl⟩ := e
              rw [updM_same] at h'
              cases h'
              exact hbok
            · rw [updM_other _ _ e] at h'
              exact hM4.ok.beats _ _ _ h'
        have hP5 := hP4.fk hM4 hfk5 (by decide) (by decide) (by decide) (by decide)
        have HF5 := Lib.hid (HF4.out.same hfk5)
        clear hM4 hP4 hm4 hfk5 hm5 hg5 hg p0 p1 m4 m5 m10 c11
        go_wp2_with fail
        refine (mturn_any (by exact hM5) ht (by omega) hl).mono ?_
        rintro en w6 ⟨rfl, b', hM6, hFK6, hFN⟩
        have hP6 := hP5.fk hM5 hFK6 (by decide) (by decide) (by decide) (by decide)
        have HF6 := Lib.hid (HF5.out.same hFK6)
        have HFN : Hid (FNew w (b.list x) (b'.list x)) := Lib.hid ((FNew.refl w (b.list x)).trans HF5.out.size hFN)
        clear hM5 hP5 hFK6 hFN
        obtain ⟨V6, l6, hvl⟩ : ∃ V6 l6, turnM (hearM V (k : Nat) lf bt) l now = (V6, l6) := ⟨_, _, rfl⟩
        rw [hvl] at hM6 HY
        simp only at hM6 HY
        clear hvl
        go_upto_region 7 with (fail)
        have bd : Below w6.heap.size w6 w6.drew := below_drewN (Below.refl _ _) 1
        have hM7 := hM6.below bd
        have hP7 := hP6.below bd
        have HF7 := Lib.hid (HF6.out.trans HFN.out (FK.of_below bd))
        clear hM6 hP6 bd
        obtain ⟨A, cap, hC, c8, c9⟩ := hM7.conf
        have hM := hM7
        have hP := hP7
        clear hM7 hP7
        refine wp_region_noPanic ?_
        refine wp_region_held_drew (S := (fun w' => w'.cell? ⟨X, 0, none⟩ = some (.int .i64 (k : Nat)) ∧ w'.cell? ⟨X, 1, none⟩ = some (.int .i64 lf) ∧ w'.cell? ⟨x, 8, none⟩ = some (.int .i64 V6.cf.epoch) ∧ w'.cell? ⟨x, 9, none⟩ = some (.slice A V6.cf.chain.length cap))) (by kernel_rfl) (by exact ⟨hP.cell rfl, hP.cell rfl, c8, c9⟩) (fun hHeld => ?_)
        refine wtk 0 hHeld ?_
        refine wtk 1 hHeld ?_
        refine wtk 2 hHeld ?_
        refine wtk 3 hHeld ?_
        refine wtk 4 hHeld ?_
        refine wpAnyH_ready (rs := [5]) (by kernel_rfl) (by simp) (AllReadyH.cons (o := ?oq_1_5) ?op_1_5 (fun K hK => ?re_1_5) AllReadyH.nil)
        case op_1_5 => (simp only [List.getElem?_toArray, List.getElem?_cons_succ, List.getElem?_cons_zero]; rfl)
        go_simp
        go_at_call 67
        refine (cplace_any (by exact hC.1) V6.cf.epoch (k : Nat) lf).mono ?_
        rintro en w8 ⟨rfl, b8⟩
        have c8q := (b8.cell (p := ⟨x, 8, none⟩) hM.lt).trans c8
        have c9q := (b8.cell (p := ⟨x, 9, none⟩) hM.lt).trans c9
        have hMq := hM.below b8
        have hPq := hP.below b8
        have HF8 := Lib.hid (HF7.out.trans HFN.out (FK.of_below b8))
        clear hM hP c8 c9 b8
        have hM := hMq
        have hP := hPq
        have c8 := c8q
        have c9 := c9q
        clear hMq hPq c8q c9q
        refine hK.out _ _ (by exact ⟨hP.cell rfl, hP.cell rfl, c8, c9⟩) (fun hHeld => ?_)
        clear hK K
        try simp only [Act.put, List.setIfInBounds_toArray, List.set_cons_zero, List.set_cons_succ]
        refine wtk 6 hHeld ?_
        refine wpAnyH_done (by kernel_rfl) ?_ _
        refine NoPanic.normal ?_
        clear hHeld
        by_cases hpl : 0 ≤ placeC V6.cf.chain (k : Nat) lf
        · have HY1 : Hid (beatL V l (k : Nat) lf bt now = []) := Lib.hid (by rw [HY.out.2, if_pos hpl])
          have HM := Lib.hid hM
          clear hM hP hC
          go_wp2_with fail
          go_ret
          exact ⟨_, b', rfl, by rw [HY1.out]; exact MsgsS.nil _ _ _, by rw [HY.out.1]; exact HM.out.mono (by omega), HF8.out, HFN.out⟩
        · have HY1 : Hid (beatL V l (k : Nat) lf bt now = [(((k : Nat) : Int), 0)]) := Lib.hid (by rw [HY.out.2, if_neg hpl])
          have p0 : w8.cell? ⟨X, 0, none⟩ = some (.int .i64 (k : Nat)) := hP.cell rfl
          go_wp2_with fail
          refine (mtell_any (by exact hM) (k : Nat) 0).mono ?_
          rintro en w9 ⟨cs, rfl, hs, b9⟩
          have hln := hs.len
          have HS := Lib.hid hs
          have HM := Lib.hid (hM.below b9)
          have HF9 := Lib.hid (HF8.out.trans HFN.out (FK.of_below b9))
          clear hs p0 b9 hM hP hC
          go_wp2_with fail
          have hal := (Below.refl w9.heap.size w9).alloc (Nat.le_refl _) (.cells cs.toArray 58)
          rw [foldM_cells (by rw [hln]; rfl)]
          go_ret
          exact ⟨.slice (some ⟨w9.heap.size, 0, none⟩) 1 1, b', rfl, by rw [HY1.out, HY.out.1]; exact msgs_one (HS.out.below hal) (heap_alloc_new _ _) HF9.out.size, by rw [HY.out.1]; exact (HM.out.below hal).mono (by omega), HF9.out.trans HFN.out (FK.of_below hal), HFN.out⟩
end Go.Proofs.YtomfmejodmfioaaGreat
namespace Go.Proofs.YtomfmejodmfioaaGreat
open Go.RowKit Go.Maps Go.ChangeShapes Go.WideShapes Go.Joins Go.Deep
set_option linter.unusedVariables false

/-! ### a map of numbers -/
theorem num_law : Keyed Tryz.prog 3 := int_keyed Tryz.underlying3
theorem num_key {k : Int} (hk : W64 k) : keyOf Tryz.prog 3 (.int .i64 k) = some (.int .i64 k) := by
  have h : (Lit.int .i64 k).wf = true := hk
  simp [keyOf, mapKey, Tryz.underlying3, h]
def FnMap (w : World) (m n : Nat) (f : Int → Option Value) : Prop :=
  ∃ D : DataW Value, w.ownsMap Tryz.prog 3 hElem m n D ∧ ∀ k, W64 k → ∀ z, D.atKey (.int .i64 k) (.held z) = .held ((f k).getD z)
theorem FnMap.made (w : World) : FnMap (w.alloc (.map #[] 0)) w.heap.size 0 (fun _ => none) := ⟨.map [], World.ownsMap_made w _ _ _, fun _ _ z => by simp [DataW.atKey]⟩
def updF (f : Int → Option Value) (k : Int) (v : Value) : Int → Option Value := fun k' => if k' = k then some v else f k'
theorem FnMap.look {w : World} {m n : Nat} {f : Int → Option Value} (h : FnMap w m n f) {t e : TypeId} (ht : Tryz.prog.underlying t = some (.map 3 e)) {z : Value} (hz : (zeroValue e).run Tryz.prog w = .ok z w) {k : Int} (hk : W64 k) :
    (Instr.lookup t (.map (some m)) (.int .i64 k) false).run Tryz.prog w = .ok ((f k).getD z) w := by
  obtain ⟨D, h1, h2⟩ := h
  obtain ⟨v, ps, hrun, hR⟩ := h1.lookup num_law ht hz (zd := .held z) (zp := []) rfl (num_key hk)
  rw [h2 k hk z] at hR
  simp only [hElem, Option.some.injEq, Prod.mk.injEq, DataW.held.injEq] at hR
  rw [← hR.1]
  exact hrun
theorem FnMap.store {w : World} {m n : Nat} {f : Int → Option Value} (h : FnMap w m n f) {t e : TypeId} (ht : Tryz.prog.underlying t = some (.map 3 e)) (hn : n < maxLen) {k : Int} (hk : W64 k) (v : Value) :
    ∃ w', (Instr.mapUpdate t (.map (some m)) (.int .i64 k) v).run Tryz.prog w = .ok () w' ∧ FnMap w' m (n + 1) (updF f k v) ∧ w.grownBy w' (some m) := by
  obtain ⟨D, h1, h2⟩ := h
  obtain ⟨w', hrun, hown, hg⟩ := h1.update num_law ht hn (num_key hk) (val := v) (d := .held v) (ps := []) rfl
  refine ⟨w', hrun, ⟨_, hown, fun k' hk' z => ?_⟩, hg⟩
  by_cases e : k' = k
  · subst e
    rw [Maps.atKey_put_same h1.isMap (num_law.key (num_key hk))]
    simp [updF]
  · rw [Maps.atKey_put_other (by simpa using e), h2 k' hk']
    simp [updF, e]
theorem wpList_insert_num {w : World} {ops : Array Oper} {rest : List Oper} {o : Oper} {a : Act} {Q : Exit → Act → World → Prop}
    (hg : o.guard = none) (mo xo vo : Operand) (t : TypeId) (hop : o.op = Op.insert t mo xo vo) (e : TypeId) (ht : Tryz.prog.underlying t = some (.map 3 e)) {m n : Nat} {f : Int → Option Value}
    (hm : a.eval mo = .map (some m)) (h : FnMap w m n f) (hn : n < maxLen) (k : Int) (v : Value) (hxe : a.eval xo = .int .i64 k) (hve : a.eval vo = v) (hk : W64 k)
    (hK : ∀ w', FnMap w' m (n + 1) (updF f k v) → w.grownBy w' (some m) → wpList Tryz.prog ops Q rest (a.put o.dst undef) w') :
    wpList Tryz.prog ops Q (o :: rest) a w := by
  refine wpList_plain hg fun K' hK' => ?_
  obtain ⟨w', hrun, r1, r2⟩ := h.store ht hn hk v
  unfold Oper.wp
  simp [execOp, hop, hm, hxe, hve, hrun, Result.andThen]
  exact hK' _ _ (hK w' r1 r2)
set_option maxRecDepth 100000 in
set_option maxHeartbeats 1000000 in

theorem mtake_nil (ms : List Value) (now : Int) (w : World) : Calls Tryz.prog 25 #[.pointer none, .agg ms.toArray, .int .i64 now] w fun e w' => e = .returned (.slice none 0 0) ∧ Below w.heap.size w w' := by
  go_enter Tryz.func25, Tryz.ntmps25
  go_wp2_with fail
  go_ret
  exact ⟨rfl, (Below.refl _ _).alloc (Nat.le_refl _) _⟩
set_option maxRecDepth 100000 in
set_option maxHeartbeats 4000000 in

theorem mtake_beat {B x N : Nat} {w : World} {b : MBlk} {V : MstV} {l : List UInt8} (h : MAt B w x b N V l) {ms : List Value} {now n lf : Int} {bt : BeatV} (h0 : ms[0]? = some (.int .i64 1)) (h2 : ms[2]? = some (.int .i64 n)) (h3 : ms[3]? = some (.int .i64 lf)) (h4 : ms[4]? = some (.int .i64 bt.epoch)) (h5 : ms[5]? = some (.int .i64 bt.echo)) (h10 : ms[10]? = some (.bool bt.synced))
    (htm : bt.time = now) (hbok : BOk bt) (hnw : W64 n) (hlw : W64 lf) (ht : TOk now) (hN : N ≤ 700000000) (hl : l.length ≤ 65536) :
    Calls Tryz.prog 25 #[.pointer (some ⟨x, 0, none⟩), .agg ms.toArray, .int .i64 now] w fun en w' => MRes B w w' x b (N + 400) en (beatL V l n lf bt now) (beatM V l n lf bt now).1 (beatM V l n lf bt now).2 := by
  have hm0 := BlkAt.new w 58 ms
  have hb := (Below.refl w.heap.size w).alloc (Nat.le_refl _) (.cells ms.toArray 58)
  have hmf : ∀ (fn : Fn) (first cap : Array Value) (w : World), (Instr.makeFunc fn first cap).run Tryz.prog w = .ok (.func fn first cap) w := fun _ _ _ _ => rfl
  have hmm := @run_makeMap Tryz.prog
  go_enter Tryz.func25, Tryz.ntmps25
  go_upto_region 3 with (fail)
  change Code.wp _ _ _ _ (w.alloc (.cells ms.toArray 58))
  change BlkAt (w.alloc (.cells ms.toArray 58)) _ _ _ at hm0
  generalize w.alloc (.cells ms.toArray 58) = W at *
  obtain ⟨mb, hmb⟩ : ∃ mb, mb = w.heap.size := ⟨_, rfl⟩
  rw [← hmb] at hm0 ⊢
  clear hmb
  have hmlt := hm0.lt
  have hfm := FnMap.made W
  have b1 := (Below.refl W.heap.size W).alloc (Nat.le_refl _) (.map #[] 0)
  have hm1 := hm0.below b1
  have hb1 := below_step hb b1
  have hfn := hb.size
  have hmne : mb ≠ W.heap.size := by omega
  obtain ⟨W2, hr2, hf2, g2⟩ := hfm.store Tryz.underlying116 (by unfold maxLen; omega) (k := 1) (W64.mk (by decide) (by decide)) (.func (.func 56) #[.pointer (some ⟨x, 0, none⟩)] #[])
  have hm2 := hm1.grown g2 hmne
  have hb2 := hb1.grown g2 hb1.size (by intro j hj; cases hj; exact hfn)
  obtain ⟨W3, hr3, hf3, g3⟩ := hf2.store Tryz.underlying116 (by unfold maxLen; omega) (k := 15) (W64.mk (by decide) (by decide)) (.func (.func 57) #[.pointer (some ⟨x, 0, none⟩)] #[])
  have hm3 := hm2.grown g3 hmne
  have hb3 := hb2.grown g3 hb2.size (by intro j hj; cases hj; exact hfn)
  have hlk := hf3.look Tryz.underlying116 (z := .nilFunc) (by kernel_rfl) (k := 1) (W64.mk (by decide) (by decide))
  simp [updF] at hlk
  have m0 : W3.cell? ⟨mb, 0, none⟩ = some (.int .i64 1) := hm3.cell h0
  clear hfm hm1 hb1 hf2 hm2 hb2 g2 g3 hf3 b1 hb hm0
  have heq : ∀ (g : Nat) (w : World), (binOp .eql 115 (.func (.func g) #[.pointer (some ⟨x, 0, none⟩)] #[]) .nilFunc).run Tryz.prog w = .ok (.bool false) w := fun g w => by
    first
    | rfl
    | kernel_rfl
    | (simp [binOp, Tryz.underlying115, run_underlying]; done)
  go_wp2_with fail
  refine (mbeat_any (b := b) (V := V) (N := N) (by exact h.below hb3) (by exact hm3) h2 h3 h4 h5 h10 htm hbok hnw hlw ht hN hl).mono ?_
  rintro en w9 ⟨v, b', rfl, hS, hM, hF, hFN⟩
  obtain ⟨SA, Scap, rfl⟩ := hS.form
  have HR : Hid (MRes B w w9 x b (N + 400) (.returned (.slice SA (beatL V l n lf bt now).length Scap)) (beatL V l n lf bt now) (beatM V l n lf bt now).1 (beatM V l n lf bt now).2) := Lib.hid ⟨_, b', rfl, hS.mono hb3.size, hM, (FK.of_below hb3).same hF, (FNew.refl w (b.list x)).trans hb3.size hFN⟩
  clear hS hM hF hFN hm3 hb3 m0 hlk h
  go_wp2_with fail
  go_ret
  exact HR.out
set_option maxRecDepth 100000 in
set_option maxHeartbeats 4000000 in

theorem mtake_where {B x N : Nat} {w : World} {b : MBlk} {V : MstV} {l : List UInt8} (h : MAt B w x b N V l) {ms : List Value} {now n : Int} (h0 : ms[0]? = some (.int .i64 15)) (h2 : ms[2]? = some (.int .i64 n)) {L : List (Int × Int)} (hL : L = if n < 100 then [] else [(n, 0)]) :
    Calls Tryz.prog 25 #[.pointer (some ⟨x, 0, none⟩), .agg ms.toArray, .int .i64 now] w fun en w' => MRes B w w' x b N en L V l := by
  have HL := Lib.hid hL
  clear hL
  have hm0 := BlkAt.new w 58 ms
  have hb := (Below.refl w.heap.size w).alloc (Nat.le_refl _) (.cells ms.toArray 58)
  have hmf : ∀ (fn : Fn) (first cap : Array Value) (w : World), (Instr.makeFunc fn first cap).run Tryz.prog w = .ok (.func fn first cap) w := fun _ _ _ _ => rfl
  have hmm := @run_makeMap Tryz.prog
  go_enter Tryz.func25, Tryz.ntmps25
  go_upto_region 3 with (fail)
  change Code.wp _ _ _ _ (w.alloc (.cells ms.toArray 58))
  change BlkAt (w.alloc (.cells ms.toArray 58)) _ _ _ at hm0
  generalize w.alloc (.cells ms.toArray 58) = W at *
  obtain ⟨mb, hmb⟩ : ∃ mb, mb = w.heap.size := ⟨_, rfl⟩
  rw [← hmb] at hm0 ⊢
  clear hmb
  have hmlt := hm0.lt
  have hfm := FnMap.made W
  have b1 := (Below.refl W.heap.size W).alloc (Nat.le_refl _) (.map #[] 0)
  have hm1 := hm0.below b1
  have hb1 := below_step hb b1
  have hfn := hb.size
  have hmne : mb ≠ W.heap.size := by omega
  obtain ⟨W2, hr2, hf2, g2⟩ := hfm.store Tryz.underlying116 (by unfold maxLen; omega) (k := 1) (W64.mk (by decide) (by decide)) (.func (.func 56) #[.pointer (some ⟨x, 0, none⟩)] #[])
  have hm2 := hm1.grown g2 hmne
  have hb2 := hb1.grown g2 hb1.size (by intro j hj; cases hj; exact hfn)
  obtain ⟨W3, hr3, hf3, g3⟩ := hf2.store Tryz.underlying116 (by unfold maxLen; omega) (k := 15) (W64.mk (by decide) (by decide)) (.func (.func 57) #[.pointer (some ⟨x, 0, none⟩)] #[])
  have hm3 := hm2.grown g3 hmne
  have hb3 := hb2.grown g3 hb2.size (by intro j hj; cases hj; exact hfn)
  have hlk := hf3.look Tryz.underlying116 (z := .nilFunc) (by kernel_rfl) (k := 15) (W64.mk (by decide) (by decide))
  simp [updF] at hlk
  have m0 : W3.cell? ⟨mb, 0, none⟩ = some (.int .i64 15) := hm3.cell h0
  clear hfm hm1 hb1 hf2 hm2 hb2 g2 g3 hf3 b1 hb hm0
  have heq : ∀ (g : Nat) (w : World), (binOp .eql 115 (.func (.func g) #[.pointer (some ⟨x, 0, none⟩)] #[]) .nilFunc).run Tryz.prog w = .ok (.bool false) w := fun g w => by
    first
    | rfl
    | kernel_rfl
    | (simp [binOp, Tryz.underlying115, run_underlying]; done)
  by_cases hn : n < 100
  · have HL2 : Hid (L = []) := Lib.hid (by rw [HL.out, if_pos hn])
    go_wp2_with fail
    refine (mwhere_no x now (by exact hm3) h2 (by omega)).mono ?_
    rintro en w9 ⟨rfl, rfl⟩
    have HR : Hid (MRes B w W3 x b N (.returned (.slice none 0 0)) L V l) := Lib.hid ⟨_, b, rfl, by rw [HL2.out]; exact MsgsS.nil _ _ _, h.below hb3, FK.of_below hb3, FNew.refl _ _⟩
    clear hm3 hb3 m0 hlk h
    go_wp2_with fail
    go_ret
    exact HR.out
  · have HL2 : Hid (L = [(n, 0)]) := Lib.hid (by rw [HL.out, if_neg hn])
    go_wp2_with fail
    refine (mwhere_any (by exact h.below hb3) now (by exact hm3) h2 (by omega)).mono ?_
    rintro en w9 ⟨v, rfl, hS, b9⟩
    obtain ⟨SA, Scap, rfl⟩ := hS.form
    have HR : Hid (MRes B w w9 x b N (.returned (.slice SA 1 Scap)) L V l) := Lib.hid ⟨_, b, rfl, by rw [HL2.out]; exact hS.mono hb3.size, (h.below hb3).below b9, (FK.of_below hb3).same (FK.of_below b9), FNew.refl _ _⟩
    clear hm3 hb3 m0 hlk h hS b9
    go_wp2_with fail
    go_ret
    exact HR.out
end Go.Proofs.YtomfmejodmfioaaGreat
namespace Go.Proofs.YtomfmejodmfioaaGreat
open Go.RowKit Go.Maps Go.ChangeShapes Go.WideShapes Go.Joins Go.Deep
set_option linter.unusedVariables false


set_option maxRecDepth 100000 in
theorem msuspect_nil (n : Int) (w : World) : Calls Tryz.prog 19 #[.pointer none, .int .i64 n] w fun e w' => e = .returned (.tuple #[]) ∧ w = w' := by
  go_enter Tryz.func19, Tryz.ntmps19
  go_wp2_with fail
  try simp only [Exit.inBlock, Exit.then]
  refine bodyPost_ret (results_none rfl _ _ _) rfl ?_
  exact ⟨rfl, rfl⟩
set_option maxRecDepth 100000 in
set_option maxHeartbeats 4000000 in

theorem msuspect_any {B x N : Nat} {w : World} {b : MBlk} {V : MstV} {l : List UInt8} (h : MAt B w x b N V l) (node : Int) (hN : N ≤ 900000000) :
    Calls Tryz.prog 19 #[.pointer (some ⟨x, 0, none⟩), .int .i64 node] w fun en w' => en = .returned (.tuple #[]) ∧ MAt B w' x b (N + 8) (suspectM V node) l ∧ FK (b.list x) B w w' := by
  have hl8 := right_len h.ok.right
  have hrs : Hid (∀ s ∈ V.cf.chain, ∃ n : Nat, n < 8 ∧ s.node = n ∧ 1 ≤ s.life ∧ s.life ≤ 1099511627776) := Lib.hid (fun s hs => right_seat h.ok.right hs)
  obtain ⟨A, cap, hC, c8, c9⟩ := h.conf
  have HC := Lib.hid hC
  have HM0 := Lib.hid h
  clear c8 hC
  go_enter Tryz.func19, Tryz.ntmps19
  go_wp2_with fail
  clear c9
  go_loopw [15] (fun i wr => ∃ (k : Nat), k ≤ V.cf.chain.length ∧ i = .int .i64 k ∧ MAt B wr x b (N + k) { V with beats := (V.cf.chain.take k).foldl (suspS node) V.beats } l ∧ FK (b.list x) B w wr) (fun i _ => V.cf.chain.length - (intOf i).toNat)
  case atStart => exact ⟨0, Nat.zero_le _, rfl, h, FK.refl _ _ _⟩
  case round =>
    obtain ⟨k, hk, rfl, hM, hF⟩ := hrel
    clear h
    by_cases hlt' : k < V.cf.chain.length
    · have hCr := HC.out.fk HM0.out hF
      obtain ⟨_, _, hqq, hs⟩ := hCr.1
      cases hqq
      obtain ⟨q, off, rfl, hab, hc⟩ := hs.2.2 (by omega)
      obtain ⟨s, hs'⟩ : ∃ s, V.cf.chain[k]? = some s := ⟨_, List.getElem?_eq_getElem hlt'⟩
      obtain ⟨s0, s1, s2⟩ := hc k s hs'
      obtain ⟨n, hn8, hn, hl1, hl2⟩ := hrs.out s (List.mem_of_getElem? hs')
      have HSN := Lib.hid (susp_snoc node V.beats hs')
      obtain ⟨x0, y, z⟩ := s
      simp only at s0 s1 s2 hn hl1 hl2 HSN
      subst hn
      clear hc hs' hs hCr
      generalize (V.cf.chain.take k).foldl (suspS node) V.beats = f at *
      have hb := Below.refl wr.heap.size wr
      have HMr := Lib.hid hM
      go_upto_region 4 with (fail)
      have hP := BlkAt.new wr 49 [.int .i64 (n : Nat), .int .i64 y, .bool z]
      replace hM := hM.below ((Below.refl _ _).alloc (Nat.le_refl _) (.cells #[.int .i64 (n : Nat), .int .i64 y, .bool z] 49))
      replace hb := hb.alloc hb.size (.cells #[.int .i64 (n : Nat), .int .i64 y, .bool z] 49)
      change Code.wp _ _ _ _ (wr.alloc (.cells #[.int .i64 (n : Nat), .int .i64 y, .bool z] 49))
      change BlkAt (wr.alloc (.cells #[.int .i64 (n : Nat), .int .i64 y, .bool z] 49)) _ _ _ at hP
      have hPn := (show wr.heap.size ≤ wr.heap.size from Nat.le_refl _)
      generalize wr.alloc (.cells #[.int .i64 (n : Nat), .int .i64 y, .bool z] 49) = w3 at *
      generalize wr.heap.size = X at hP ⊢
      clear hPn
      clear s0 s1 s2
      have HF := Lib.hid hF
      have hF3 := hF.same (FK.of_below hb)
      clear hF
      have p0 : w3.cell? ⟨X, 0, none⟩ = some (.int .i64 (n : Nat)) := hP.cell rfl
      have p1 : w3.cell? ⟨X, 1, none⟩ = some (.int .i64 y) := hP.cell rfl
      have p2 : w3.cell? ⟨X, 2, none⟩ = some (.bool z) := hP.cell rfl
      by_cases hnn : ((n : Nat) : Int) = node
      · have hnb : (((n : Nat) : Int) == node) = true := by simpa using hnn
        obtain ⟨bt, hbtd⟩ : ∃ bt, bt = (f (n : Nat) y).getD beatZero := ⟨_, rfl⟩
        have HE : Hid (suspS node f ⟨(n : Nat), y, z⟩ = updM f (n : Nat) y (some { bt with time := longAgo })) := Lib.hid (by unfold suspS; rw [hbtd]; exact if_pos hnn)
        have hbok : BOk bt := by rw [hbtd]; exact hM.ok.beat (n : Nat) y
        obtain ⟨bs, hbs⟩ : ∃ bs : List Value, bs = [.int .i64 bt.time, .int .i64 bt.epoch, .bool bt.synced, .int .i64 bt.echo] := ⟨_, rfl⟩
        have hbl : bs.length = 4 := by rw [hbs]; rfl
        have hbone : bs.toArray.all (·.oneCell') = true := by rw [hbs]; simp [Value.oneCell']
        have HLK : Hid (∀ W', Below wr.heap.size wr W' → (Instr.lookup 84 (.map (some b.bm)) (.agg #[.int .i64 (n : Nat), .int .i64 y]) false).run Tryz.prog W' = .ok (.agg bs.toArray) W') := Lib.hid (fun W' hW => by rw [hbs, hbtd]; exact look_beat (HMr.out.below hW).beats (w64_nat hn8) (w64_life ⟨hl1, hl2⟩))
        have hX11 : Hid (∀ W', Below wr.heap.size wr W' → W'.cell? ⟨x, 11, none⟩ = some (.map (some b.bm))) := Lib.hid (fun W' hW => (HMr.out.below hW).low rfl)
        have HBS := Lib.hid hbs
        clear hbs hbtd hM hnn
        go_upto_region 5 with (fail)
        clear p0 p1 p2 hnb
        have hb2 := below_drewN hb 1
        clear hb
        have hP0 : BlkAt w3.drew X 49 [.int .i64 (n : Nat), .int .i64 y, .bool z] := hP
        clear hP
        have hP := hP0
        clear hP0
        have hb : Below wr.heap.size wr w3.drew := hb2
        clear hb2
        refine wp_region_noPanic ?_
        refine wp_region_held_drew (S := (fun w' => w'.cell? ⟨X, 0, none⟩ = some (.int .i64 (n : Nat)) ∧ w'.cell? ⟨X, 1, none⟩ = some (.int .i64 y) ∧ w'.cell? ⟨x, 11, none⟩ = some (.map (some b.bm)) ∧ (Instr.lookup 84 (.map (some b.bm)) (.agg #[.int .i64 (n : Nat), .int .i64 y]) false).run Tryz.prog w' = .ok (.agg bs.toArray) w')) (by kernel_rfl) (by exact ⟨hP.cell rfl, hP.cell rfl, hX11.out _ hb, HLK.out _ hb⟩) (fun hHeld => ?_)
        refine wtk 0 hHeld ?_
        refine wtk 1 hHeld ?_
        refine wtk 2 hHeld ?_
        refine wtk 3 hHeld ?_
        refine wtk 4 hHeld ?_
        refine wtk 5 hHeld ?_
        refine wtk 6 hHeld ?_
        refine wpAnyH_ready (rs := [7]) (by kernel_rfl) (by simp) (AllReadyH.cons (o := ?oq_1_7) ?op_1_7 (fun K hK => ?re_1_7) AllReadyH.nil)
        case op_1_7 => (simp only [List.getElem?_toArray, List.getElem?_cons_succ, List.getElem?_cons_zero]; rfl)
        go_simp
        have hY : BlkAt (w3.alloc (.cells #[.int .i64 0, .int .i64 0, .bool false, .int .i64 0] 102)).drew w3.heap.size 102 [.int .i64 0, .int .i64 0, .bool false, .int .i64 0] := BlkAt.new w3 102 [.int .i64 0, .int .i64 0, .bool false, .int .i64 0]
        have ne_hP_hY : X ≠ w3.heap.size := Nat.ne_of_lt (show X < w3.heap.size from hP.lt)
        replace hP : BlkAt (w3.alloc (.cells #[.int .i64 0, .int .i64 0, .bool false, .int .i64 0] 102)).drew X 49 [.int .i64 (n : Nat), .int .i64 y, .bool z] := hP.alloc (.cells #[.int .i64 0, .int .i64 0, .bool false, .int .i64 0] 102)
        have hYn : wr.heap.size ≤ w3.heap.size := hb.size
        replace hb : Below wr.heap.size wr (w3.alloc (.cells #[.int .i64 0, .int .i64 0, .bool false, .int .i64 0] 102)).drew := hb.alloc hb.size (.cells #[.int .i64 0, .int .i64 0, .bool false, .int .i64 0] 102)
        generalize (w3.alloc (.cells #[.int .i64 0, .int .i64 0, .bool false, .int .i64 0] 102)).drew = w4 at *
        generalize w3.heap.size = Y at *
        refine hK.out _ _ (by exact ⟨hP.cell rfl, hP.cell rfl, hX11.out _ hb, HLK.out _ hb⟩) (fun hHeld => ?_)
        clear hK K
        try simp only [Act.put, List.setIfInBounds_toArray, List.set_cons_zero, List.set_cons_succ]
        refine wpAnyH_ready (rs := [8]) (by kernel_rfl) (by simp) (AllReadyH.cons (o := ?oq_1_8) ?op_1_8 (fun K hK => ?re_1_8) AllReadyH.nil)
        case op_1_8 => (simp only [List.getElem?_toArray, List.getElem?_cons_succ, List.getElem?_cons_zero]; rfl)
        rw [if_pos (by rfl)]
        refine wp_store_mid _ _ _ rfl Y 0 bs.toArray rfl rfl (mblk_there2 hY hbl) (by rw [List.size_toArray, hbl]; exact beat_info4) hbone ?_
        simp only [Act.put]
        have hY5 := hY.stored (vs := bs) hbl
        have G5 := grown_setCells Y bs 0 w4
        have hP5 := hP.grown G5 ne_hP_hY
        have hb5 := hb.grown G5 hb.size (by intro j hj; cases hj; exact hYn)
        clear hY hP hb G5
        have hY := hY5
        have hP := hP5
        have hb := hb5
        clear hY5 hP5 hb5
        change K _ (w4.setCells Y 0 bs)
        generalize w4.setCells Y 0 bs = w5 at *
        refine hK.out _ _ (by exact ⟨hP.cell rfl, hP.cell rfl, hX11.out _ hb, HLK.out _ hb⟩) (fun hHeld => ?_)
        clear hK K
        try simp only [Act.put, List.setIfInBounds_toArray, List.set_cons_zero, List.set_cons_succ]
        refine wpAnyH_done (by kernel_rfl) ?_ _
        refine NoPanic.normal ?_
        clear hHeld
        have hY := hY
        rw [HBS.out] at hY
        have hM5 := HMr.out.below hb
        have hF5 := HF.out.same (FK.of_below hb)
        have hF3s : w.heap.size ≤ Y := Nat.le_trans HF.out.size hYn
        clear hF3 hb
        have y0 : w5.cell? ⟨Y, 0, none⟩ = some (.int .i64 bt.time) := hY.cell rfl
        have yf := hY.free
        go_upto_region 7 with (fail)
        have g6 := grown_setCell w5 Y 0 (.int .i64 (-2199023255552))
        have hY6 : BlkAt (w5.setCell ⟨Y, 0, none⟩ (.int .i64 (-2199023255552))) Y 102 [.int .i64 (-2199023255552), .int .i64 bt.epoch, .bool bt.synced, .int .i64 bt.echo] := hY.set 0 _
        have hP6 := hP.grown g6 (cells_ne hP.kind hY.kind (by decide))
        have hM6 := hM5.other (r := some Y) g6 (fun j hj => by cases hj; exact hY.kind) (by decide) (by decide) (by decide) (by decide) (by decide)
        have hF6 : FK (b.list x) B w (w5.setCell ⟨Y, 0, none⟩ (.int .i64 (-2199023255552))) := ⟨g6.os.trans hF5.os, g6.tape.trans hF5.tape, g6.output.trans hF5.output, Nat.le_trans hF5.size g6.size, fun q hq hn hu => (g6.block q (Nat.lt_of_lt_of_le hq hF5.size) (fun e => by cases e; have := hF3s; omega)).trans (hF5.block q hq hn hu)⟩
        clear hM5 hF5 hP hY g6 y0 yf
        change Code.wp _ _ _ _ (w5.setCell ⟨Y, 0, none⟩ (.int .i64 (-2199023255552)))
        generalize w5.setCell ⟨Y, 0, none⟩ (.int .i64 (-2199023255552)) = w6 at *
        have p0 : w6.cell? ⟨X, 0, none⟩ = some (.int .i64 (n : Nat)) := hP6.cell rfl
        have p1 : w6.cell? ⟨X, 1, none⟩ = some (.int .i64 y) := hP6.cell rfl
        have p2 : w6.cell? ⟨X, 2, none⟩ = some (.bool z) := hP6.cell rfl
        have y0 : w6.cell? ⟨Y, 0, none⟩ = some (.int .i64 (-2199023255552)) := hY6.cell rfl
        have y1 : w6.cell? ⟨Y, 1, none⟩ = some (.int .i64 bt.epoch) := hY6.cell rfl
        have y2 : w6.cell? ⟨Y, 2, none⟩ = some (.bool bt.synced) := hY6.cell rfl
        have y3 : w6.cell? ⟨Y, 3, none⟩ = some (.int .i64 bt.echo) := hY6.cell rfl
        have c11 : w6.cell? ⟨x, 11, none⟩ = some (.map (some b.bm)) := hM6.low rfl
        refine still_tail 7 (by kernel_rfl) (by kernel_rfl) ?_
        simp only [List.take_succ_cons, List.take_zero, List.drop_succ_cons, List.drop_zero]
        repeat still_step
        refine wpStill_nil ?_
        change wpList _ _ _ _ _ _
        refine wpList_put_mem (by rfl) _ _ _ 84 (by rfl) 102 Tryz.underlying84 (by rfl) (hM6.beats.drew) (by unfold maxLen; omega) (n : Nat) y (beatV { bt with time := longAgo }) (by rfl) (by rfl) (w64_nat hn8) (w64_life ⟨hl1, hl2⟩) ?_
        intro w7 hm7 hg7
        have hg : w6.grownBy w7 (some b.bm) := ⟨hg7.os, hg7.tape, hg7.output, hg7.size, hg7.block⟩
        have HM7 : Hid (MAt B w7 x b (N + (k + 1)) { V with beats := (V.cf.chain.take (k + 1)).foldl (suspS node) V.beats } l) := Lib.hid (by
          rw [HSN.out, HE.out]
          refine MAt.putBm (V := { V with beats := f }) (f := updM f (n : Nat) y (some { bt with time := longAgo })) hM6 (by omega) hg ?_ (fun a c b' h' => ?_)
          · have := hm7
            rw [beatsV_upd] at this
            exact this
          · by_cases e : a = (n : Nat) ∧ c = y
            · obtain ⟨rfl, rfl⟩ := e
              rw [updM_same] at h'
              cases h'
              exact ⟨⟨(by decide : (-1125899906842624 : Int) ≤ longAgo), (by decide : longAgo ≤ (1125899906842624 : Int))⟩, hbok.2.1, hbok.2.2⟩
            · rw [updM_other _ _ e] at h'
              exact hM6.ok.beats _ _ _ h')
        have HF7 := Lib.hid (hF6.same (FK.of_grown hg (MAt.mem (b := b) (x := x) b.bm (by simp))))
        clear hM6 hF6 hP6 hY6 hm7 hg7 hg p0 p1 p2 y0 y1 y2 y3 c11
        go_wp2_with fail
        go_roundw
        case rel => exact ⟨k + 1, by omega, by go_num, HM7.out, HF7.out⟩
        case measure => simp [intOf]; omega
      · have hnb : (((n : Nat) : Int) == node) = false := by simpa using hnn
        have HE : Hid (suspS node f ⟨(n : Nat), y, z⟩ = f) := Lib.hid (by unfold suspS; exact if_neg hnn)
        have HM := Lib.hid hM
        have HF := Lib.hid hF3
        clear hM hF3 hP hb
        go_wp2_with fail
        go_roundw
        case rel => exact ⟨k + 1, by omega, by go_num, by rw [HSN.out, HE.out]; exact HM.out.mono (by omega), HF.out⟩
        case measure => simp [intOf]; omega
    · have hke : k = V.cf.chain.length := by omega
      subst hke
      rw [List.take_of_length_le (Nat.le_refl _)] at hM
      have HM := Lib.hid hM
      clear hM
      go_wp2_with fail
      go_end0
      exact ⟨rfl, HM.out.mono (by omega), hF⟩
end Go.Proofs.YtomfmejodmfioaaGreat
namespace Go.Proofs.YtomfmejodmfioaaGreat
open Go.RowKit Go.Maps Go.ChangeShapes Go.WideShapes Go.Joins Go.Deep
set_option linter.unusedVariables false


theorem fall_no {V : MstV} {l : List UInt8} {keep now : Int} {c : ConfV} (h : wantsM V now = (c, false)) : fallL V l keep now = l := by simp [fallL, h]
theorem fall_yes {V : MstV} {l : List UInt8} {keep now : Int} {c : ConfV} (h : wantsM V now = (c, true)) : fallL V l keep now = (writeS l false (encConf c) keep).1 := by simp [fallL, h]
set_option maxRecDepth 100000 in
set_option maxHeartbeats 4000000 in

theorem mfall_nil (keep now : Int) (w : World) : Calls Tryz.prog 20 #[.pointer none, .int .i64 keep, .int .i64 now] w fun e w' => e = .returned (.tuple #[]) ∧ Below w.heap.size w w' := by
  go_enter Tryz.func20, Tryz.ntmps20
  go_wp2_with fail
  refine (mwants_nil now _).mono ?_
  rintro en w2 ⟨A, cap, rfl, hC, b2⟩
  clear hC
  go_wp2_with fail
  go_end0
  exact ⟨rfl, below_step b2 ((Below.refl _ _).alloc (Nat.le_refl _) _)⟩
theorem MAt.putLogT {B x N : Nat} {w w' : World} {b : MBlk} {V : MstV} {l l2 : List UInt8} (h : MAt B w x b N V l) (hk : FK [b.lb] B w w') : w'.cell? ⟨x, 7, none⟩ = some (.pointer (some ⟨b.lb, 0, none⟩)) := by
  have hX := h.kindX
  have e : w'.heap[x]? = w.heap[x]? := hk.at hX (fun e => by
    rw [List.mem_singleton.1 e] at hX
    exact cells_ne hX h.kindL (by decide) rfl) (by decide)
  exact (World.cell?_of_block e).trans (h.low rfl)
set_option maxRecDepth 100000 in
set_option maxHeartbeats 4000000 in

theorem mfall_any {B x N : Nat} {w : World} {b : MBlk} {V : MstV} {l : List UInt8} (h : MAt B w x b N V l) {keep now : Int} (ht : TOk now) (hl : l.length ≤ 65536) {l2 : List UInt8} (hr : fallL V l keep now = l2) :
    Calls Tryz.prog 20 #[.pointer (some ⟨x, 0, none⟩), .int .i64 keep, .int .i64 now] w fun en w' => en = .returned (.tuple #[]) ∧ (∃ v t, LogAt B w' b.lb v l2 t) ∧ FK [b.lb] B w w' := by
  have HR := Lib.hid hr
  clear hr
  obtain ⟨pe, pL, pb, hp⟩ := res_parts (wantsM V now)
  have HP := Lib.hid hp
  have hM := h
  clear h
  go_enter Tryz.func20, Tryz.ntmps20
  go_wp2_with fail
  refine (mwants_any (by exact hM) ht hp).mono ?_
  rintro en w3 ⟨RA, Rcap, rfl, hR, hb⟩
  clear hp
  go_upto_region 1 with (fail)
  have hZ := BlkAt.new w3 35 [.int .i64 pe, .slice RA pL.length Rcap]
  replace hR := hR.below ((Below.refl _ _).alloc (Nat.le_refl _) (.cells #[.int .i64 pe, .slice RA pL.length Rcap] 35))
  replace hb := hb.alloc hb.size (.cells #[.int .i64 pe, .slice RA pL.length Rcap] 35)
  change Code.wp _ _ _ _ (w3.alloc (.cells #[.int .i64 pe, .slice RA pL.length Rcap] 35))
  change BlkAt (w3.alloc (.cells #[.int .i64 pe, .slice RA pL.length Rcap] 35)) _ _ _ at hZ
  have hZn := (show w3.heap.size ≤ w3.heap.size from Nat.le_refl _)
  generalize w3.alloc (.cells #[.int .i64 pe, .slice RA pL.length Rcap] 35) = w4 at *
  generalize w3.heap.size = Z at hZ ⊢
  clear hZn
  cases pb with
  | false =>
    have HE : Hid (l2 = l) := Lib.hid (by rw [← HR.out, fall_no HP.out])
    have HB := Lib.hid hb
    have HLOG := Lib.hid (hM.below hb).log
    clear hR hZ hb hM
    go_wp2_with fail
    go_end0
    exact ⟨rfl, by rw [HE.out]; exact ⟨HLOG.out.choose, false, HLOG.out.choose_spec⟩, FK.of_below HB.out⟩
  | true =>
    have hrt := wants_right HP.out
    have hl8 := right_len hrt
    simp only at hl8
    have HE : Hid (l2 = (writeS l false (encConf ⟨pe, pL⟩) keep).1) := Lib.hid (by rw [← HR.out, fall_yes HP.out])
    go_upto_region 2 with (fail)
    have bd : Below w4.heap.size w4 w4.drew := below_drewN (Below.refl _ _) 1
    replace hZ := hZ.below bd
    replace hR := hR.below bd
    replace hb := below_step hb bd
    clear bd
    refine wp_region_noPanic ?_
    refine wp_region_held_drew (S := (fun w' => w'.cell? ⟨x, 7, none⟩ = some (.pointer (some ⟨b.lb, 0, none⟩)) ∧ w'.cell? ⟨Z, 0, none⟩ = some (.int .i64 pe) ∧ w'.cell? ⟨Z, 1, none⟩ = some (.slice RA pL.length Rcap))) (by kernel_rfl) (by exact ⟨(hM.below hb).low rfl, hZ.cell rfl, hZ.cell rfl⟩) (fun hHeld => ?_)
    refine wtk 0 hHeld ?_
    refine wtk 1 hHeld ?_
    refine wtk 2 hHeld ?_
    refine wtk 3 hHeld ?_
    refine wtk 4 hHeld ?_
    refine wtk 6 hHeld ?_
    refine wpAnyH_ready (rs := [5]) (by kernel_rfl) (by simp) (AllReadyH.cons (o := ?oq_1_5) ?op_1_5 (fun K hK => ?re_1_5) AllReadyH.nil)
    case op_1_5 => (simp only [List.getElem?_toArray, List.getElem?_cons_succ, List.getElem?_cons_zero]; rfl)
    go_simp
    go_at_call 45
    refine (cput_any (by exact hR.1) pe (by omega)).mono ?_
    rintro en w5 ⟨rfl, b5⟩
    replace hZ := hZ.below b5
    replace hR := hR.below b5
    replace hb := below_step hb b5
    clear b5
    refine hK.out _ _ (by exact ⟨(hM.below hb).low rfl, hZ.cell rfl, hZ.cell rfl⟩) (fun hHeld => ?_)
    clear hK K
    try simp only [Act.put, List.setIfInBounds_toArray, List.set_cons_zero, List.set_cons_succ]
    refine wpAnyH_ready (rs := [7]) (by kernel_rfl) (by simp) (AllReadyH.cons (o := ?oq_1_7) ?op_1_7 (fun K hK => ?re_1_7) AllReadyH.nil)
    case op_1_7 => (simp only [List.getElem?_toArray, List.getElem?_cons_succ, List.getElem?_cons_zero]; rfl)
    go_simp
    go_at_call 44
    obtain ⟨u, hlog⟩ := (hM.below hb).log
    refine (crash_any (by exact hlog) hl (by have := encConf_len ⟨pe, pL⟩; simp only at this; unfold maxLen; omega) (Nat.le_trans hlog.1 (Nat.le_of_lt hlog.lt)) keep).mono ?_
    rintro en w6 ⟨rfl, hlog6, hk6⟩
    have hf6 := hk6.fk hlog
    have hMx := (hM.below hb).putLogT (l2 := (writeS l false (encConf ⟨pe, pL⟩) keep).1) hf6
    have hZq := hZ.fk (hM.below hb) (hf6.wide (MAt.inLb (x := x))) (by decide) (by decide) (by decide) (by decide)
    have HL6 := Lib.hid hlog6
    have HF6 := Lib.hid ((FK.of_below (bs := [b.lb]) (B := B) hb).same hf6)
    clear hlog hlog6 hk6 hf6 hZ
    refine hK.out _ _ (by exact ⟨hMx, hZq.cell rfl, hZq.cell rfl⟩) (fun hHeld => ?_)
    clear hK K
    try simp only [Act.put, List.setIfInBounds_toArray, List.set_cons_zero, List.set_cons_succ]
    refine wpAnyH_done (by kernel_rfl) ?_ _
    refine NoPanic.normal ?_
    clear hHeld hM hb hR hMx hZq
    go_wp2_with fail
    go_end0
    exact ⟨rfl, by rw [HE.out]; exact ⟨HL6.out.choose, _, HL6.out.choose_spec⟩, HF6.out⟩
end Go.Proofs.YtomfmejodmfioaaGreat
