/- A message is read. -/
import Derived.Test.YtnaabaahfjklhaaGreatWireReadM
import Derived.Laws.ResultCell
namespace Go.Proofs.YtnaabaahfjklhaaGreat
open Go.RowKit Go.ChangeShapes Go.WideShapes Go.Joins Go.Deep Fld
set_option linter.unusedVariables false

theorem msgCells_len {M : MsgV} (h : M.op.v.length = 8) (v1 v2 : Value) : (msgCells M v1 v2).length = 28 := by
  simp [msgCells, opCells, icells, h]
theorem msgCells_one {M : MsgV} {v1 v2 : Value} (h1 : v1.oneCell' = true) (h2 : v2.oneCell' = true) : ∀ u ∈ msgCells M v1 v2, u.oneCell' = true := by
  intro u hu
  simp only [msgCells, opCells, icells, List.mem_cons, List.mem_append, List.mem_map, List.not_mem_nil, or_false] at hu
  rcases hu with rfl | rfl | rfl | rfl | rfl | rfl | rfl | rfl | rfl | rfl | rfl | h | rfl | rfl | rfl | rfl | rfl | rfl | rfl
  all_goals first | rfl | assumption | skip
  rcases h with rfl | ⟨x, _, rfl⟩ | rfl <;> rfl
theorem blk_there {w : World} {b : Nat} {T : TypeId} {cs : List Value} (h : BlkAt w b T cs) : w.there b 0 cs.toArray.size := by
  intro j hj
  have hj' : j < cs.length := by simpa using hj
  rw [Nat.zero_add]
  exact ⟨by rw [h.cell (List.getElem?_eq_getElem hj')]; rfl, h.free j⟩
theorem msg_info : (Tryz.prog.info? 40).map (·.size) = some 28 := by kernel_rfl
theorem chain_one {w : World} {v : Value} {L : List SeatV} (h : ChainAt w v L) : v.oneCell' = true := by obtain ⟨a, cap, rfl, _⟩ := h; rfl
theorem fires_one {w : World} {v : Value} {L : List FireV} (h : FiresAt w v L) : v.oneCell' = true := by obtain ⟨a, cap, rfl, _⟩ := h; rfl

/-- A message and another value, handed back. -/
theorem results_msg {fn : Func} {p u : Tmp} (h : fn.results = #[.cell p 40, .tmp u]) {tmps : Array Value} {w : World} {m : Nat} {cs : List Value} {b : Value} (hp : tmps.getD p undef = .pointer (some ⟨m, 0, none⟩)) (hu : tmps.getD u undef = b)
    (hM : BlkAt w m 40 cs) (hlen : cs.length = 28) : (results fn tmps).run Tryz.prog w = .ok (.tuple #[.agg cs.toArray, b]) w := by
  have hi : (Tryz.prog.info? 40).map (·.size) = some cs.length := by rw [hlen]; exact msg_info
  have hlv := hM.loadVar Tryz.underlying40 rfl hi
  rw [results_cell_tmp h, hp, hu]
  rw [show (asAddr (Value.pointer (some ⟨m, 0, none⟩))).run Tryz.prog w = .ok ⟨m, 0, none⟩ w from rfl, Result.andThen_ok, hlv, Result.andThen_ok]
set_option maxRecDepth 100000 in
set_option maxHeartbeats 4000000 in

theorem wread0_torn {w : World} {s : List UInt8} (hs : s.length ≤ 1000000) (hw : whole s = false) :
    Calls Tryz.prog 41 #[.string ⟨s.toArray⟩] w fun en w' => ∃ v, en = .returned (.tuple #[v, .bool false]) ∧ msgZero.From w.heap.size w' v ∧ Below w.heap.size w w' := by
  have hM := BlkAt.new w 40 [.int .i64 0, .int .i64 0, .int .i64 0, .int .i64 0, .int .i64 0, .int .i64 0, .int .i64 0, .int .i64 0, .int .i64 0, .int .i64 0, .bool false, .int .i64 0, .int .i64 0, .int .i64 0, .int .i64 0, .int .i64 0, .int .i64 0, .int .i64 0, .int .i64 0, .int .i64 0, .string ⟨#[]⟩, .int .i64 0, .int .i64 0, .int .i64 0, .int .i64 0, .slice none 0 0, .slice none 0 0, .int .i64 0]
  have hb := (Below.refl w.heap.size w).alloc (Nat.le_refl _) (.cells #[.int .i64 0, .int .i64 0, .int .i64 0, .int .i64 0, .int .i64 0, .int .i64 0, .int .i64 0, .int .i64 0, .int .i64 0, .int .i64 0, .bool false, .int .i64 0, .int .i64 0, .int .i64 0, .int .i64 0, .int .i64 0, .int .i64 0, .int .i64 0, .int .i64 0, .int .i64 0, .string ⟨#[]⟩, .int .i64 0, .int .i64 0, .int .i64 0, .int .i64 0, .slice none 0 0, .slice none 0 0, .int .i64 0] 40)
  have HW := Lib.hid hw
  clear hw
  go_enter Tryz.func41, Tryz.ntmps41
  go_upto_region 1 with (fail)
  change Code.wp _ _ _ _ (w.alloc (.cells #[.int .i64 0, .int .i64 0, .int .i64 0, .int .i64 0, .int .i64 0, .int .i64 0, .int .i64 0, .int .i64 0, .int .i64 0, .int .i64 0, .bool false, .int .i64 0, .int .i64 0, .int .i64 0, .int .i64 0, .int .i64 0, .int .i64 0, .int .i64 0, .int .i64 0, .int .i64 0, .string ⟨#[]⟩, .int .i64 0, .int .i64 0, .int .i64 0, .int .i64 0, .slice none 0 0, .slice none 0 0, .int .i64 0] 40))
  change BlkAt (w.alloc (.cells #[.int .i64 0, .int .i64 0, .int .i64 0, .int .i64 0, .int .i64 0, .int .i64 0, .int .i64 0, .int .i64 0, .int .i64 0, .int .i64 0, .bool false, .int .i64 0, .int .i64 0, .int .i64 0, .int .i64 0, .int .i64 0, .int .i64 0, .int .i64 0, .int .i64 0, .int .i64 0, .string ⟨#[]⟩, .int .i64 0, .int .i64 0, .int .i64 0, .int .i64 0, .slice none 0 0, .slice none 0 0, .int .i64 0] 40)) _ _ _ at hM
  have hml : w.heap.size < (w.alloc (.cells #[.int .i64 0, .int .i64 0, .int .i64 0, .int .i64 0, .int .i64 0, .int .i64 0, .int .i64 0, .int .i64 0, .int .i64 0, .int .i64 0, .bool false, .int .i64 0, .int .i64 0, .int .i64 0, .int .i64 0, .int .i64 0, .int .i64 0, .int .i64 0, .int .i64 0, .int .i64 0, .string ⟨#[]⟩, .int .i64 0, .int .i64 0, .int .i64 0, .int .i64 0, .slice none 0 0, .slice none 0 0, .int .i64 0] 40)).heap.size := by simp
  generalize w.alloc (.cells #[.int .i64 0, .int .i64 0, .int .i64 0, .int .i64 0, .int .i64 0, .int .i64 0, .int .i64 0, .int .i64 0, .int .i64 0, .int .i64 0, .bool false, .int .i64 0, .int .i64 0, .int .i64 0, .int .i64 0, .int .i64 0, .int .i64 0, .int .i64 0, .int .i64 0, .int .i64 0, .string ⟨#[]⟩, .int .i64 0, .int .i64 0, .int .i64 0, .int .i64 0, .slice none 0 0, .slice none 0 0, .int .i64 0] 40) = W at *
  obtain ⟨cs, hcs⟩ : ∃ cs : List Value, cs = [.int .i64 0, .int .i64 0, .int .i64 0, .int .i64 0, .int .i64 0, .int .i64 0, .int .i64 0, .int .i64 0, .int .i64 0, .int .i64 0, .bool false, .int .i64 0, .int .i64 0, .int .i64 0, .int .i64 0, .int .i64 0, .int .i64 0, .int .i64 0, .int .i64 0, .int .i64 0, .string ⟨#[]⟩, .int .i64 0, .int .i64 0, .int .i64 0, .int .i64 0, .slice none 0 0, .slice none 0 0, .int .i64 0] := ⟨_, rfl⟩
  rw [← hcs] at hM
  obtain ⟨m, hm⟩ : ∃ m, m = w.heap.size := ⟨_, rfl⟩
  have hmw : w.heap.size ≤ m := Nat.le_of_eq hm.symm
  rw [← hm] at hM hml ⊢
  have HM := Lib.hid hm
  clear hm
  have HCS := Lib.hid hcs
  clear hcs
  go_wp2_with fail
  refine (whole_any s hs _).mono ?_
  rintro en w1 ⟨rfl, b1⟩
  rw [HW.out]
  have hM := hM.below b1
  have hb := below_step hb b1
  have hlen : cs.length = 28 := by rw [HCS.out]; rfl
  have hone : cs.toArray.all (·.oneCell') = true := by rw [HCS.out]; simp [Value.oneCell']
  have hi : (Tryz.prog.info? 40).map (·.size) = some cs.length := by rw [hlen]; exact msg_info
  have HM2 := Lib.hid (hM.stored (vs := cs) rfl)
  have G := grown_setCells m cs 0 w1
  have HB := Lib.hid (hb.grown G hb.size (by intro j hj; cases hj; exact hmw))
  go_upto_region 3 with (fail)
  refine wp_region_lit ?_
  refine wpList_load_mid rfl 40 (.tmp 2) rfl m 0 rfl cs _ hM.range Tryz.underlying40 rfl hi ?_
  simp only [Act.put, List.setIfInBounds_toArray, List.set_cons_zero, List.set_cons_succ]
  refine wpList_store_mid rfl 40 (.tmp 2) (.tmp 17) rfl m 0 cs.toArray rfl rfl (blk_there hM) (by rw [List.size_toArray]; exact hi) hone ?_
  rw [List.toList_toArray]
  generalize w1.setCells m 0 cs = w2 at *
  have HLN := Lib.hid hlen
  clear hM b1 hone hi G hlen hb
  go_wp2_with fail
  exact bodyPost_ret (v := .tuple #[.agg cs.toArray, .bool false]) (results_msg rfl rfl rfl HM2.out HLN.out) rfl ⟨_, rfl, ⟨.slice none 0 0, .slice none 0 0, by rw [HCS.out]; rfl, ChainFrom.nil _ _, FiresFrom.nil _ _⟩, HB.out⟩

/-- What is read of a text that is whole, up to the row. -/
theorem rdHead_of {t : List UInt8} {b : Nat} {l1 : List UInt8} {e1 : Int} {v : Int} {l2 : List UInt8} {e2 : Int} (h1 : rdB t 0 = (b, l1, e1)) (h2 : rdIs 1 l1 e1 = ([v], l2, e2)) : rdHead t = ({ msgZero with kind := (b : Int), dst := v }, l2, e2) := by
  unfold rdHead
  rw [h1]
  simp only
  rw [h2]
  rfl

set_option maxRecDepth 100000 in
set_option maxHeartbeats 4000000 in

theorem wread0_whole {w : World} {s : List UInt8} (hs : s.length ≤ 1000000) (hw : whole s = true) :
    Calls Tryz.prog 41 #[.string ⟨s.toArray⟩] w fun en w' => ∃ v, en = .returned (.tuple #[v, .bool (rawM s).2]) ∧ (rawM s).1.From w.heap.size w' v ∧ Below w.heap.size w w' := by
  have hM := BlkAt.new w 40 [.int .i64 0, .int .i64 0, .int .i64 0, .int .i64 0, .int .i64 0, .int .i64 0, .int .i64 0, .int .i64 0, .int .i64 0, .int .i64 0, .bool false, .int .i64 0, .int .i64 0, .int .i64 0, .int .i64 0, .int .i64 0, .int .i64 0, .int .i64 0, .int .i64 0, .int .i64 0, .string ⟨#[]⟩, .int .i64 0, .int .i64 0, .int .i64 0, .int .i64 0, .slice none 0 0, .slice none 0 0, .int .i64 0]
  have hb := (Below.refl w.heap.size w).alloc (Nat.le_refl _) (.cells #[.int .i64 0, .int .i64 0, .int .i64 0, .int .i64 0, .int .i64 0, .int .i64 0, .int .i64 0, .int .i64 0, .int .i64 0, .int .i64 0, .bool false, .int .i64 0, .int .i64 0, .int .i64 0, .int .i64 0, .int .i64 0, .int .i64 0, .int .i64 0, .int .i64 0, .int .i64 0, .string ⟨#[]⟩, .int .i64 0, .int .i64 0, .int .i64 0, .int .i64 0, .slice none 0 0, .slice none 0 0, .int .i64 0] 40)
  have HW := Lib.hid hw
  have htl : (wholeOf s).length ≤ 1000000 := by rw [wholeOf]; split <;> simp <;> omega
  have HRM := Lib.hid (show rawM s = ((rdText (wholeOf s)).1, decide (fieldsOf (rdHead (wholeOf s)).1.kind ≠ []) && (decide ((rdText (wholeOf s)).2.2 = 0) && decide ((rdText (wholeOf s)).2.1 = []))) from by rw [rawM, if_pos hw])
  clear hw
  generalize hq : rawM s = q at *
  clear hq
  go_enter Tryz.func41, Tryz.ntmps41
  go_upto_region 1 with (fail)
  change Code.wp _ _ _ _ (w.alloc (.cells #[.int .i64 0, .int .i64 0, .int .i64 0, .int .i64 0, .int .i64 0, .int .i64 0, .int .i64 0, .int .i64 0, .int .i64 0, .int .i64 0, .bool false, .int .i64 0, .int .i64 0, .int .i64 0, .int .i64 0, .int .i64 0, .int .i64 0, .int .i64 0, .int .i64 0, .int .i64 0, .string ⟨#[]⟩, .int .i64 0, .int .i64 0, .int .i64 0, .int .i64 0, .slice none 0 0, .slice none 0 0, .int .i64 0] 40))
  change BlkAt (w.alloc (.cells #[.int .i64 0, .int .i64 0, .int .i64 0, .int .i64 0, .int .i64 0, .int .i64 0, .int .i64 0, .int .i64 0, .int .i64 0, .int .i64 0, .bool false, .int .i64 0, .int .i64 0, .int .i64 0, .int .i64 0, .int .i64 0, .int .i64 0, .int .i64 0, .int .i64 0, .int .i64 0, .string ⟨#[]⟩, .int .i64 0, .int .i64 0, .int .i64 0, .int .i64 0, .slice none 0 0, .slice none 0 0, .int .i64 0] 40)) _ _ (msgCells msgZero (.slice none 0 0) (.slice none 0 0)) at hM
  have hml : w.heap.size < (w.alloc (.cells #[.int .i64 0, .int .i64 0, .int .i64 0, .int .i64 0, .int .i64 0, .int .i64 0, .int .i64 0, .int .i64 0, .int .i64 0, .int .i64 0, .bool false, .int .i64 0, .int .i64 0, .int .i64 0, .int .i64 0, .int .i64 0, .int .i64 0, .int .i64 0, .int .i64 0, .int .i64 0, .string ⟨#[]⟩, .int .i64 0, .int .i64 0, .int .i64 0, .int .i64 0, .slice none 0 0, .slice none 0 0, .int .i64 0] 40)).heap.size := by simp
  generalize w.alloc (.cells #[.int .i64 0, .int .i64 0, .int .i64 0, .int .i64 0, .int .i64 0, .int .i64 0, .int .i64 0, .int .i64 0, .int .i64 0, .int .i64 0, .bool false, .int .i64 0, .int .i64 0, .int .i64 0, .int .i64 0, .int .i64 0, .int .i64 0, .int .i64 0, .int .i64 0, .int .i64 0, .string ⟨#[]⟩, .int .i64 0, .int .i64 0, .int .i64 0, .int .i64 0, .slice none 0 0, .slice none 0 0, .int .i64 0] 40) = W at *
  obtain ⟨m, hm⟩ : ∃ m, m = w.heap.size := ⟨_, rfl⟩
  have hmw : w.heap.size ≤ m := Nat.le_of_eq hm.symm
  rw [← hm] at hM hml ⊢
  clear hm
  go_wp2_with fail
  refine (whole_any s hs _).mono ?_
  rintro en w1 ⟨rfl, b1⟩
  rw [HW.out]
  have hM := hM.below b1
  have hb := below_step hb b1
  have hml1 : m < w1.heap.size := by have := b1.size; omega
  clear hml b1
  generalize wholeOf s = t at *
  go_wp2_with fail
  refine (read_any t _).mono ?_
  rintro en w2 ⟨r, rfl, hR, hrw, b2⟩
  have hM := hM.below b2
  have hb := below_step hb b2
  have hrl := hR.lt
  have hmr : m ≠ r := by omega
  clear b2
  go_upto_region 6 with (fail)
  have hD := BlkAt.new w2 118 [.pointer (some ⟨m, 0, none⟩), .pointer none, .pointer (some ⟨r, 0, none⟩)]
  have hM1 := hM.alloc (.cells #[.pointer (some ⟨m, 0, none⟩), .pointer none, .pointer (some ⟨r, 0, none⟩)] 118)
  have hR1 := hR.alloc (.cells #[.pointer (some ⟨m, 0, none⟩), .pointer none, .pointer (some ⟨r, 0, none⟩)] 118)
  have hb1 := hb.alloc hb.size (.cells #[.pointer (some ⟨m, 0, none⟩), .pointer none, .pointer (some ⟨r, 0, none⟩)] 118)
  have hdl : w2.heap.size < (w2.alloc (.cells #[.pointer (some ⟨m, 0, none⟩), .pointer none, .pointer (some ⟨r, 0, none⟩)] 118)).heap.size := by simp
  have hml2 := hM.lt
  clear hM hR hb
  change Code.wp _ _ _ _ (w2.alloc (.cells #[.pointer (some ⟨m, 0, none⟩), .pointer none, .pointer (some ⟨r, 0, none⟩)] 118))
  change BlkAt (w2.alloc (.cells #[.pointer (some ⟨m, 0, none⟩), .pointer none, .pointer (some ⟨r, 0, none⟩)] 118)) _ _ _ at hD
  generalize w2.alloc (.cells #[.pointer (some ⟨m, 0, none⟩), .pointer none, .pointer (some ⟨r, 0, none⟩)] 118) = W2 at *
  generalize w2.heap.size = d at *
  obtain ⟨b, l1, e1, h1⟩ : ∃ b l1 e1, rdB t 0 = (b, l1, e1) := ⟨_, _, _, rfl⟩
  have hbf := rdB_fit t 0
  have hl1 := rdB_len t 0
  rw [h1] at hbf hl1
  have hl1 : l1.length ≤ 1000000 := Nat.le_trans hl1 htl
  have hbf : b < 256 := hbf
  have H1 := Lib.hid h1
  clear h1
  go_wp2_with fail
  refine (rbyte_at (by exact hR1) htl H1.out).mono ?_
  rintro en w3 ⟨rfl, hR3, hg⟩
  have hD := hD.grown hg (by omega)
  have hM3 := hM1.grown hg hmr
  have hb3 := grown_below hb1 hg (by omega)
  have hdl3 : d < w3.heap.size := hD.lt
  clear hg hM1 hR1 hb1 hdl
  have m0 : w3.cell? ⟨m, 0, none⟩ = some (.int .i64 0) := hM3.cell rfl
  have hf := hM3.free 0
  have hbz : (0 : Int) ≤ (b : Int) := by omega
  have hbz2 : (b : Int) < 256 := by omega
  go_upto_region 7 with (fail)
  have G := grown_setCell w3 m 0 (.int .i64 b)
  have hM4 : BlkAt (w3.setCell ⟨m, 0, none⟩ (.int .i64 b)) m 40 (msgCells { msgZero with kind := (b : Int) } (.slice none 0 0) (.slice none 0 0)) := hM3.set 0 (.int .i64 b)
  have hR4 : RdAt (w3.setCell ⟨m, 0, none⟩ (.int .i64 b)) r l1 e1 := hR3.grown G hmr.symm
  have hD4 := hD.grown G (by omega)
  have hb4 := grown_below hb3 G hmw
  change Code.wp _ _ _ _ (w3.setCell ⟨m, 0, none⟩ (.int .i64 b))
  clear hM3 hR3 hD hb3 G m0 hf hdl3
  generalize w3.setCell ⟨m, 0, none⟩ (.int .i64 b) = w4 at *
  have hlen := rdIs_len 1 l1 e1
  obtain ⟨v, l2, e2, h2⟩ : ∃ v l2 e2, rdIs 1 l1 e1 = (v, l2, e2) := ⟨_, _, _, rfl⟩
  have hl2 := rdIs_short 1 l1 e1
  rw [h2] at hlen hl2
  obtain ⟨v0, rfl⟩ := list1 hlen
  have hl2 : l2.length ≤ 1000000 := Nat.le_trans hl2 hl1
  have HH := Lib.hid (rdHead_of H1.out h2)
  have H2 := Lib.hid h2
  clear h2 hlen
  have hP : SlotsAt (w4.alloc (.cells #[.pointer (some ⟨m, 1, none⟩)] 123)) w4.heap.size [(m, 1)] := by
    refine ⟨BlkAt.new w4 123 [.pointer (some ⟨m, 1, none⟩)], fun i A g1 => ?_⟩
    match i, g1 with
    | 0, g1 => simp at g1; obtain rfl := g1; exact ⟨_, _, hM4.alloc (.cells #[.pointer (some ⟨m, 1, none⟩)] 123), by decide, by decide, by decide, 0, rfl⟩
  have b5 := (Below.refl w4.heap.size w4).alloc (Nat.le_refl _) (.cells #[.pointer (some ⟨m, 1, none⟩)] 123)
  have hD5 := hD4.alloc (.cells #[.pointer (some ⟨m, 1, none⟩)] 123)
  have hM5 := hM4.alloc (.cells #[.pointer (some ⟨m, 1, none⟩)] 123)
  have hR5 := hR4.alloc (.cells #[.pointer (some ⟨m, 1, none⟩)] 123)
  have hb5 := below_step hb4 b5
  go_wp2_with fail
  refine (ints_rd (As := [(m, 1)]) H2.out rfl (by exact hD5) (by exact hP) (by exact hR5) hl1 (by decide)).mono ?_
  rintro en w6 ⟨rfl, hR6, hT⟩
  have hD6 : BlkAt w6 d 118 _ := hT.same hD5 (by omega) (by simp; omega)
  have hM6 : BlkAt w6 m 40 (msgCells { msgZero with kind := (b : Int), dst := v0 } (.slice none 0 0) (.slice none 0 0)) := by
    have h3 := hT.cells m _ _ _ hmr hM5
    simpa [updB, BlkAt, msgCells] using h3
  have hb6 : Below w.heap.size w w6 := ⟨hT.os.trans hb5.os, hT.tape.trans hb5.tape, hT.output.trans hb5.output, Nat.le_trans hb5.size hT.size, fun k hk => by
    rw [hT.other k (Nat.lt_of_lt_of_le hk hb5.size) (by omega) (by simp; omega), hb5.block k hk]⟩
  clear hD4 hM4 hR4 hb4 hP b5 hD5 hM5 hR5 hb5 hT
  go_wp2_with fail
  refine (drow_any (k := (b : Int)) (by exact hD6) (by exact hM6) rfl).mono ?_
  rintro en w7 ⟨rv, rfl, hRow, b7⟩
  have hD := hD6.below b7
  have hM := hM6.below b7
  have hR := hR6.below b7
  have hb := below_step hb6 b7
  have HN : MsgR (d + 1) w7 m { msgZero with kind := (b : Int), dst := v0 } := ⟨_, _, hM, ChainFrom.nil _ _, FiresFrom.nil _ _⟩
  clear hD6 hM6 hR6 hb6 b7 hM
  have hdw : w.heap.size ≤ d := by omega
  have hdl := hD.lt
  have hkk : (rdHead t).1.kind = b := by rw [HH.out]
  have hop : ({ msgZero with kind := (b : Int), dst := v0 } : MsgV).op.v.length = 8 := rfl
  obtain ⟨M0, hM0⟩ : ∃ M0 : MsgV, M0 = { msgZero with kind := (b : Int), dst := v0 } := ⟨_, rfl⟩
  have hq : q = ((rdFlds (fieldsOf b) M0 l2 e2).1, decide (fieldsOf (b : Int) ≠ []) && (decide ((rdFlds (fieldsOf b) M0 l2 e2).2.2 = 0) && decide ((rdFlds (fieldsOf b) M0 l2 e2).2.1 = []))) := by
    rw [HRM.out, hM0]
    unfold rdText
    rw [HH.out]
  rw [← hM0] at HN hop
  have HQ := Lib.hid hq
  clear hq hM0 HRM hkk hbz hbz2
  have HRL := Lib.hid (rowLen (b : Int))
  generalize hFs : fieldsOf (b : Int) = Fs at *
  clear hFs
  rcases hRow with ⟨rfl, rfl⟩ | ⟨hne, R, rfl, hRb⟩
  · obtain ⟨v1, v2, hM, hc1, hc2⟩ := HN
    have hlen : (msgCells M0 v1 v2).length = 28 := msgCells_len hop _ _
    have hone : (msgCells M0 v1 v2).toArray.all (·.oneCell') = true := by
      rw [Array.all_eq_true_iff_forall_mem]
      intro u hu
      exact msgCells_one (chain_one hc1.1) (fires_one hc2.1) u (by simpa using hu)
    have HCS := Lib.hid (show (msgCells M0 v1 v2).toArray = (msgCells M0 v1 v2).toArray ∧ ChainAt w7 v1 M0.cf.chain ∧ FiresAt w7 v2 M0.fires from ⟨rfl, hc1.1, hc2.1⟩)
    have HAT : Hid (∀ w9, w7.grownBy w9 (some m) → M0.From w.heap.size w9 (.agg (msgCells M0 v1 v2).toArray)) := Lib.hid fun w9 hg => ⟨v1, v2, rfl, (hc1.grown hg (by omega)).mono (by omega), (hc2.grown hg (by omega)).mono (by omega)⟩
    clear HCS hc1 hc2
    generalize msgCells M0 v1 v2 = cs at *
    have hi : (Tryz.prog.info? 40).map (·.size) = some cs.length := by rw [hlen]; exact msg_info
    go_wp2_with fail
    refine wp_loop_rounds 1 ?_
    rw [rounds_succ]
    go_wp2_with fail
    go_upto_region 14 with (fail)
    refine wp_region_noPanic ?_
    refine wp_region_held_drew (S := (fun w' => BlkAt w' m 40 cs ∧ RdAt w' r l2 e2)) (by kernel_rfl) (by exact ⟨hM, hR⟩) (fun hHeld => ?_)
    refine wpAnyH_take (i := 0) (oi := ?oq_1_0) (v := ?va_1_0) ?op_1_0 (by kernel_rfl) (by kernel_rfl) (by kernel_rfl) (fun _ _ _ h => h) ?yi_1_0 hHeld ?re_1_0
    case op_1_0 => (simp only [List.getElem?_toArray, List.getElem?_cons_zero]; rfl)
    case yi_1_0 => exact (by
      refine yieldsIf_load_mid ?_ 40 (.tmp 2) ?_ m 0 ?_ cs _ ?_ Tryz.underlying40 ?_ hi
      · rfl
      · rfl
      · rfl
      · intro w h
        exact BlkAt.range (show _ ∧ _ from h).1
      · rfl)
    try simp only [Act.put, List.setIfInBounds_toArray, List.set_cons_zero, List.set_cons_succ]
    refine wpAnyH_take (i := 1) (oi := ?oq_1_1) (v := ?va_1_1) ?op_1_1 (by kernel_rfl) (by kernel_rfl) (by kernel_rfl) (fun _ _ _ h => h) ?yi_1_1 hHeld ?re_1_1
    case op_1_1 => (simp only [List.getElem?_toArray, List.getElem?_cons_succ, List.getElem?_cons_zero]; rfl)
    case yi_1_1 =>
      refine Or.inl ⟨by rfl, ?_⟩
      intro w hSw
      try dsimp only at hSw
      go_simp
      all_goals with_reducible rfl
    try simp only [Act.put, List.setIfInBounds_toArray, List.set_cons_zero, List.set_cons_succ]
    refine wpAnyH_take (i := 2) (oi := ?oq_1_2) (v := ?va_1_2) ?op_1_2 (by kernel_rfl) (by kernel_rfl) (by kernel_rfl) (fun _ _ _ h => h) ?yi_1_2 hHeld ?re_1_2
    case op_1_2 => (simp only [List.getElem?_toArray, List.getElem?_cons_succ, List.getElem?_cons_zero]; rfl)
    case yi_1_2 =>
      refine Or.inl ⟨by rfl, ?_⟩
      intro w hSw
      try dsimp only at hSw
      go_simp
      all_goals with_reducible rfl
    try simp only [Act.put, List.setIfInBounds_toArray, List.set_cons_zero, List.set_cons_succ]
    refine wpAnyH_take (i := 3) (oi := ?oq_1_3) (v := ?va_1_3) ?op_1_3 (by kernel_rfl) (by kernel_rfl) (by kernel_rfl) (fun _ _ _ h => h) ?yi_1_3 hHeld ?re_1_3
    case op_1_3 => (simp only [List.getElem?_toArray, List.getElem?_cons_succ, List.getElem?_cons_zero]; rfl)
    case yi_1_3 =>
      refine Or.inl ⟨by rfl, ?_⟩
      intro w hSw
      try dsimp only at hSw
      go_simp
      all_goals with_reducible rfl
    try simp only [Act.put, List.setIfInBounds_toArray, List.set_cons_zero, List.set_cons_succ]
    refine wpAnyH_take (i := 4) (oi := ?oq_1_4) (v := undef) ?op_1_4 (by kernel_rfl) (by kernel_rfl) (by kernel_rfl) (fun _ _ _ h => h) ?yi_1_4 hHeld ?re_1_4
    case op_1_4 => (simp only [List.getElem?_toArray, List.getElem?_cons_succ, List.getElem?_cons_zero]; rfl)
    case yi_1_4 => exact Or.inr ⟨by rfl, rfl⟩
    try simp only [Act.put, List.setIfInBounds_toArray, List.set_cons_zero, List.set_cons_succ]
    refine wpAnyH_take (i := 5) (oi := ?oq_1_5) (v := undef) ?op_1_5 (by kernel_rfl) (by kernel_rfl) (by kernel_rfl) (fun _ _ _ h => h) ?yi_1_5 hHeld ?re_1_5
    case op_1_5 => (simp only [List.getElem?_toArray, List.getElem?_cons_succ, List.getElem?_cons_zero]; rfl)
    case yi_1_5 => exact Or.inr ⟨by rfl, rfl⟩
    try simp only [Act.put, List.setIfInBounds_toArray, List.set_cons_zero, List.set_cons_succ]
    refine wpAnyH_take (i := 6) (oi := ?oq_1_6) (v := undef) ?op_1_6 (by kernel_rfl) (by kernel_rfl) (by kernel_rfl) (fun _ _ _ h => h) ?yi_1_6 hHeld ?re_1_6
    case op_1_6 => (simp only [List.getElem?_toArray, List.getElem?_cons_succ, List.getElem?_cons_zero]; rfl)
    case yi_1_6 => exact Or.inr ⟨by rfl, rfl⟩
    try simp only [Act.put, List.setIfInBounds_toArray, List.set_cons_zero, List.set_cons_succ]
    refine wpAnyH_take (i := 7) (oi := ?oq_1_7) (v := ?va_1_7) ?op_1_7 (by kernel_rfl) (by kernel_rfl) (by kernel_rfl) (fun _ _ _ h => h) ?yi_1_7 hHeld ?re_1_7
    case op_1_7 => (simp only [List.getElem?_toArray, List.getElem?_cons_succ, List.getElem?_cons_zero]; rfl)
    case yi_1_7 =>
      refine Or.inl ⟨by rfl, ?_⟩
      intro w hSw
      try dsimp only at hSw
      go_simp
      all_goals with_reducible rfl
    try simp only [Act.put, List.setIfInBounds_toArray, List.set_cons_zero, List.set_cons_succ]
    refine wpAnyH_take (i := 8) (oi := ?oq_1_8) (v := ?va_1_8) ?op_1_8 (by kernel_rfl) (by kernel_rfl) (by kernel_rfl) (fun _ _ _ h => h) ?yi_1_8 hHeld ?re_1_8
    case op_1_8 => (simp only [List.getElem?_toArray, List.getElem?_cons_succ, List.getElem?_cons_zero]; rfl)
    case yi_1_8 =>
      refine Or.inl ⟨by rfl, ?_⟩
      intro w hSw
      try dsimp only at hSw
      go_simp
      all_goals with_reducible rfl
    try simp only [Act.put, List.setIfInBounds_toArray, List.set_cons_zero, List.set_cons_succ]
    refine wpAnyH_take (i := 9) (oi := ?oq_1_9) (v := undef) ?op_1_9 (by kernel_rfl) (by kernel_rfl) (by kernel_rfl) (fun _ _ _ h => h) ?yi_1_9 hHeld ?re_1_9
    case op_1_9 => (simp only [List.getElem?_toArray, List.getElem?_cons_succ, List.getElem?_cons_zero]; rfl)
    case yi_1_9 => exact Or.inr ⟨by rfl, rfl⟩
    try simp only [Act.put, List.setIfInBounds_toArray, List.set_cons_zero, List.set_cons_succ]
    refine wpAnyH_take (i := 10) (oi := ?oq_1_10) (v := undef) ?op_1_10 (by kernel_rfl) (by kernel_rfl) (by kernel_rfl) (fun _ _ _ h => h) ?yi_1_10 hHeld ?re_1_10
    case op_1_10 => (simp only [List.getElem?_toArray, List.getElem?_cons_succ, List.getElem?_cons_zero]; rfl)
    case yi_1_10 => exact Or.inr ⟨by rfl, rfl⟩
    try simp only [Act.put, List.setIfInBounds_toArray, List.set_cons_zero, List.set_cons_succ]
    refine wpAnyH_take (i := 11) (oi := ?oq_1_11) (v := undef) ?op_1_11 (by kernel_rfl) (by kernel_rfl) (by kernel_rfl) (fun _ _ _ h => h) ?yi_1_11 hHeld ?re_1_11
    case op_1_11 => (simp only [List.getElem?_toArray, List.getElem?_cons_succ, List.getElem?_cons_zero]; rfl)
    case yi_1_11 => exact Or.inr ⟨by rfl, rfl⟩
    try simp only [Act.put, List.setIfInBounds_toArray, List.set_cons_zero, List.set_cons_succ]
    refine wpAnyH_take (i := 12) (oi := ?oq_1_12) (v := ?va_1_12) ?op_1_12 (by kernel_rfl) (by kernel_rfl) (by kernel_rfl) (fun _ _ _ h => h) ?yi_1_12 hHeld ?re_1_12
    case op_1_12 => (simp only [List.getElem?_toArray, List.getElem?_cons_succ, List.getElem?_cons_zero]; rfl)
    case yi_1_12 =>
      refine Or.inl ⟨by rfl, ?_⟩
      intro w hSw
      try dsimp only at hSw
      go_simp
      all_goals with_reducible rfl
    try simp only [Act.put, List.setIfInBounds_toArray, List.set_cons_zero, List.set_cons_succ]
    refine wpAnyH_ready (rs := [13]) (by kernel_rfl) (by simp) (AllReadyH.cons (o := ?oq_1_13) ?op_1_13 (fun K hK => ?re_1_13) AllReadyH.nil)
    case op_1_13 => (simp only [List.getElem?_toArray, List.getElem?_cons_succ, List.getElem?_cons_zero]; rfl)
    rw [if_pos (by rfl)]
    refine wp_store_mid _ _ _ rfl m 0 cs.toArray rfl rfl (blk_there (show _ ∧ _ from hHeld).1) (by rw [List.size_toArray]; exact hi) hone ?_
    simp only [Act.put]
    refine hK.out _ _ (by exact ⟨BlkAt.stored (show _ ∧ _ from hHeld).1 rfl, RdAt.grown (show _ ∧ _ from hHeld).2 (grown_setCells m cs 0 _) hmr.symm⟩) (fun hHeld => ?_)
    clear hK K
    try simp only [Act.put, List.setIfInBounds_toArray, List.set_cons_zero, List.set_cons_succ]
    refine wpAnyH_take (i := 14) (oi := ?oq_1_14) (v := ?va_1_14) ?op_1_14 (by kernel_rfl) (by kernel_rfl) (by kernel_rfl) (fun _ _ _ h => h) ?yi_1_14 hHeld ?re_1_14
    case op_1_14 => (simp only [List.getElem?_toArray, List.getElem?_cons_succ, List.getElem?_cons_zero]; rfl)
    case yi_1_14 =>
      refine Or.inl ⟨by rfl, ?_⟩
      intro w hSw
      try dsimp only at hSw
      go_simp
      all_goals with_reducible rfl
    try simp only [Act.put, List.setIfInBounds_toArray, List.set_cons_zero, List.set_cons_succ]
    refine wpAnyH_done (by kernel_rfl) ?_ _
    refine NoPanic.normal ?_
    have hE : BlkAt (w7.drew.setCells m 0 cs) m 40 cs := BlkAt.stored (show BlkAt w7.drew m 40 cs from hM) rfl
    have G0 := grown_setCells m cs 0 w7.drew
    have G : w7.grownBy (w7.drew.setCells m 0 cs) (some m) := ⟨G0.os, G0.tape, G0.output, G0.size, G0.block⟩
    have HA := Lib.hid (HAT.out _ G)
    have HBE := Lib.hid (grown_below hb G hmw)
    have HE := Lib.hid hE
    have HLN := Lib.hid hlen
    have hq : q = (M0, false) := by rw [HQ.out]; rfl
    clear G0 G hE hM hone hi HAT hlen hb hHeld hR
    subst hq
    go_wp2_with fail
    exact bodyPost_ret (v := .tuple #[.agg cs.toArray, .bool false]) (results_msg rfl rfl rfl HE.out HLN.out) rfl ⟨_, rfl, HA.out, HBE.out⟩
  · have hrl := HRL.out
    have hlt0 : 0 < Fs.length := by cases Fs with | nil => exact absurd rfl hne | cons a b => simp
    go_wp2_with fail
    go_loopw [35] (fun i wr => ∃ j : Nat, j ≤ Fs.length ∧ i = .int .i64 j ∧ BlkAt wr d 118 [.pointer (some ⟨m, 0, none⟩), .pointer none, .pointer (some ⟨r, 0, none⟩)] ∧ BlkAt wr R 1 (Fs.map (fnV d)) ∧ MsgR (d + 1) wr m (rdFlds (Fs.take j) M0 l2 e2).1 ∧
      RdAt wr r (rdFlds (Fs.take j) M0 l2 e2).2.1 (rdFlds (Fs.take j) M0 l2 e2).2.2 ∧ Below w.heap.size w wr ∧ d < wr.heap.size) (fun i _ => Fs.length - (intOf i).toNat)
    case atStart => exact ⟨0, Nat.zero_le _, rfl, hD, hRb, HN, hR, hb, hdl⟩
    case round =>
      obtain ⟨j, hj, rfl, hDr, hRr, HNr, hRd, hbr, hdr⟩ := hrel
      clear hD hRb HN hR hb hdl
      obtain ⟨hopr, hlr⟩ := rdFlds_facts (Fs.take j) M0 l2 e2 hl2 hop
      have HS0 := Lib.hid (fun F => rdFlds_snoc (Fs.take j) F M0 l2 e2)
      by_cases hlt : j < Fs.length
      · obtain ⟨F, hF⟩ : ∃ F, Fs[j]? = some F := ⟨_, List.getElem?_eq_getElem hlt⟩
        have HS := Lib.hid (show rdFlds (Fs.take (j + 1)) M0 l2 e2 = rdFld F (rdFlds (Fs.take j) M0 l2 e2).1 (rdFlds (Fs.take j) M0 l2 e2).2.1 (rdFlds (Fs.take j) M0 l2 e2).2.2 by rw [List.take_add_one, hF, Option.toList_some]; exact HS0.out F)
        have r0 : wr.cell? ⟨R, j, none⟩ = some (.func (.func (fnOf F)) #[.pointer (some ⟨d, 0, none⟩)] #[]) := hRr.cell (by rw [List.getElem?_map, hF]; rfl)
        obtain ⟨Mr, lr, er, hq3⟩ : ∃ Mr lr er, rdFlds (Fs.take j) M0 l2 e2 = (Mr, lr, er) := ⟨_, _, _, rfl⟩
        rw [hq3] at HNr hRd hopr hlr HS
        simp only at HNr hRd hopr hlr HS
        have hRne : R ≠ r := by
          rintro rfl
          unfold RdAt at hRd
          rw [hRr] at hRd
          simp at hRd
        have hRm : R ≠ m := by
          rintro rfl
          obtain ⟨v1, v2, h5, _⟩ := HNr
          unfold BlkAt at h5 hRr
          rw [hRr] at h5
          simp at h5
        have hRl := hRr.lt
        have HC : Hid (FldR (d + 1) wr F d r m lr er Mr) := Lib.hid (fld_r F (by exact hDr) (by exact HNr) (by omega) (by omega) (by omega) hopr (by exact hRd) (by omega))
        clear hq3 hF HS0
        unfold FldR at HC
        have HDr := Lib.hid hDr
        have HRr := Lib.hid hRr
        have HBr := Lib.hid hbr
        clear hDr HNr hRd hRr hbr
        cases F
        all_goals
          dsimp only [fnOf] at r0 HC
          go_wp2_with fail
          refine HC.out.mono ?_
          rintro en w8 ⟨rfl, hR8, hM8, hK8⟩
          have hD8 : BlkAt w8 d 118 _ := (hK8.block d hdr (by omega) (by omega)).trans HDr.out
          have hX8 : BlkAt w8 R 1 _ := (hK8.block R hRl hRne hRm).trans HRr.out
          have hb8 : Below w.heap.size w w8 := ⟨hK8.os.trans HBr.out.os, hK8.tape.trans HBr.out.tape, hK8.output.trans HBr.out.output, Nat.le_trans HBr.out.size hK8.size, fun k hk => by rw [hK8.block k (Nat.lt_of_lt_of_le hk HBr.out.size) (by omega) (by omega), HBr.out.block k hk]⟩
          have hd8 : d < w8.heap.size := Nat.lt_of_lt_of_le hdr hK8.size
          have H1 := Lib.hid hR8
          have H2 := Lib.hid hM8
          have H3 := Lib.hid hD8
          have H4 := Lib.hid hX8
          have H5 := Lib.hid hb8
          clear r0 hR8 hM8 hK8 hD8 hX8 hb8
          go_wp2_with fail
          go_roundw
          case rel => exact ⟨j + 1, by omega, by go_num, H3.out, H4.out, by rw [HS.out]; exact H2.out, by rw [HS.out]; exact H1.out, H5.out, hd8⟩
          case measure => simp [intOf]; omega
      · obtain rfl : j = Fs.length := by omega
        rw [List.take_length] at HNr hRd hopr hlr
        obtain ⟨Mr, lr, er, hq3⟩ : ∃ Mr lr er, rdFlds Fs M0 l2 e2 = (Mr, lr, er) := ⟨_, _, _, rfl⟩
        rw [hq3] at HNr hRd hopr hlr HQ
        simp only at HNr hRd hopr hlr HQ
        have hR := hRd
        have hb := hbr
        clear HS0 hq3 hRd hbr hRr hDr
        obtain ⟨v1, v2, hM, hc1, hc2⟩ := HNr
        have hlen : (msgCells Mr v1 v2).length = 28 := msgCells_len hopr _ _
        have hone : (msgCells Mr v1 v2).toArray.all (·.oneCell') = true := by
          rw [Array.all_eq_true_iff_forall_mem]
          intro u hu
          exact msgCells_one (chain_one hc1.1) (fires_one hc2.1) u (by simpa using hu)
        have HAT : Hid (∀ w9, wr.grownBy w9 (some m) → Mr.From w.heap.size w9 (.agg (msgCells Mr v1 v2).toArray)) := Lib.hid fun w9 hg => ⟨v1, v2, rfl, (hc1.grown hg (by omega)).mono (by omega), (hc2.grown hg (by omega)).mono (by omega)⟩
        clear hc1 hc2
        generalize msgCells Mr v1 v2 = cs at *
        have hi : (Tryz.prog.info? 40).map (·.size) = some cs.length := by rw [hlen]; exact msg_info
        by_cases he : er = 0
        · subst he
          have hlf : leftOf lr 0 = (lr.length : Int) := by simp [leftOf]
          cases hln : decide (lr = []) with
          | true =>
            have hz : ((lr.length : Int) == 0) = true := by simpa using hln
            rw [hln] at HQ
            go_upto_region 14 with (fail)
            refine wp_region_noPanic ?_
            refine wp_region_held_drew (S := (fun w' => BlkAt w' m 40 cs ∧ RdAt w' r lr 0)) (by kernel_rfl) (by exact ⟨hM, hR⟩) (fun hHeld => ?_)
            refine wpAnyH_take (i := 0) (oi := ?oq_2_0) (v := ?va_2_0) ?op_2_0 (by kernel_rfl) (by kernel_rfl) (by kernel_rfl) (fun _ _ _ h => h) ?yi_2_0 hHeld ?re_2_0
            case op_2_0 => (simp only [List.getElem?_toArray, List.getElem?_cons_zero]; rfl)
            case yi_2_0 => exact (by
              refine yieldsIf_load_mid ?_ 40 (.tmp 2) ?_ m 0 ?_ cs _ ?_ Tryz.underlying40 ?_ hi
              · rfl
              · rfl
              · rfl
              · intro w h
                exact BlkAt.range (show _ ∧ _ from h).1
              · rfl)
            try simp only [Act.put, List.setIfInBounds_toArray, List.set_cons_zero, List.set_cons_succ]
            refine wpAnyH_take (i := 1) (oi := ?oq_2_1) (v := ?va_2_1) ?op_2_1 (by kernel_rfl) (by kernel_rfl) (by kernel_rfl) (fun _ _ _ h => h) ?yi_2_1 hHeld ?re_2_1
            case op_2_1 => (simp only [List.getElem?_toArray, List.getElem?_cons_succ, List.getElem?_cons_zero]; rfl)
            case yi_2_1 =>
              refine Or.inl ⟨by rfl, ?_⟩
              intro w hSw
              try dsimp only at hSw
              go_simp
              all_goals with_reducible rfl
            try simp only [Act.put, List.setIfInBounds_toArray, List.set_cons_zero, List.set_cons_succ]
            refine wpAnyH_take (i := 2) (oi := ?oq_2_2) (v := ?va_2_2) ?op_2_2 (by kernel_rfl) (by kernel_rfl) (by kernel_rfl) (fun _ _ _ h => h) ?yi_2_2 hHeld ?re_2_2
            case op_2_2 => (simp only [List.getElem?_toArray, List.getElem?_cons_succ, List.getElem?_cons_zero]; rfl)
            case yi_2_2 =>
              refine Or.inl ⟨by rfl, ?_⟩
              intro w hSw
              try dsimp only at hSw
              go_simp
              all_goals with_reducible rfl
            try simp only [Act.put, List.setIfInBounds_toArray, List.set_cons_zero, List.set_cons_succ]
            refine wpAnyH_take (i := 3) (oi := ?oq_2_3) (v := ?va_2_3) ?op_2_3 (by kernel_rfl) (by kernel_rfl) (by kernel_rfl) (fun _ _ _ h => h) ?yi_2_3 hHeld ?re_2_3
            case op_2_3 => (simp only [List.getElem?_toArray, List.getElem?_cons_succ, List.getElem?_cons_zero]; rfl)
            case yi_2_3 =>
              refine Or.inl ⟨by rfl, ?_⟩
              intro w hSw
              try dsimp only at hSw
              go_simp
              all_goals with_reducible rfl
            try simp only [Act.put, List.setIfInBounds_toArray, List.set_cons_zero, List.set_cons_succ]
            refine wpAnyH_take (i := 4) (oi := ?oq_2_4) (v := ?va_2_4) ?op_2_4 (by kernel_rfl) (by kernel_rfl) (by kernel_rfl) (fun _ _ _ h => h) ?yi_2_4 hHeld ?re_2_4
            case op_2_4 => (simp only [List.getElem?_toArray, List.getElem?_cons_succ, List.getElem?_cons_zero]; rfl)
            case yi_2_4 =>
              refine Or.inl ⟨by rfl, ?_⟩
              intro w hSw
              try dsimp only at hSw
              go_simp
              all_goals with_reducible rfl
            try simp only [Act.put, List.setIfInBounds_toArray, List.set_cons_zero, List.set_cons_succ]
            refine wpAnyH_ready (rs := [5]) (by kernel_rfl) (by simp) (AllReadyH.cons (o := ?oq_2_5) ?op_2_5 (fun K hK => ?re_2_5) AllReadyH.nil)
            case op_2_5 => (simp only [List.getElem?_toArray, List.getElem?_cons_succ, List.getElem?_cons_zero]; rfl)
            go_simp
            go_at_call 63
            refine (err_any (show _ ∧ _ from hHeld).2).mono ?_
            rintro en wz ⟨rfl, rfl⟩
            refine hK.out _ _ (by exact hHeld) (fun hHeld => ?_)
            clear hK K
            try simp only [Act.put, List.setIfInBounds_toArray, List.set_cons_zero, List.set_cons_succ]
            refine wpAnyH_take (i := 6) (oi := ?oq_2_6) (v := ?va_2_6) ?op_2_6 (by kernel_rfl) (by kernel_rfl) (by kernel_rfl) (fun _ _ _ h => h) ?yi_2_6 hHeld ?re_2_6
            case op_2_6 => (simp only [List.getElem?_toArray, List.getElem?_cons_succ, List.getElem?_cons_zero]; rfl)
            case yi_2_6 =>
              refine Or.inl ⟨by rfl, ?_⟩
              intro w hSw
              try dsimp only at hSw
              go_simp
              all_goals with_reducible rfl
            try simp only [Act.put, List.setIfInBounds_toArray, List.set_cons_zero, List.set_cons_succ]
            refine wpAnyH_take (i := 7) (oi := ?oq_2_7) (v := ?va_2_7) ?op_2_7 (by kernel_rfl) (by kernel_rfl) (by kernel_rfl) (fun _ _ _ h => h) ?yi_2_7 hHeld ?re_2_7
            case op_2_7 => (simp only [List.getElem?_toArray, List.getElem?_cons_succ, List.getElem?_cons_zero]; rfl)
            case yi_2_7 =>
              refine Or.inl ⟨by rfl, ?_⟩
              intro w hSw
              try dsimp only at hSw
              go_simp
              all_goals with_reducible rfl
            try simp only [Act.put, List.setIfInBounds_toArray, List.set_cons_zero, List.set_cons_succ]
            refine wpAnyH_take (i := 8) (oi := ?oq_2_8) (v := ?va_2_8) ?op_2_8 (by kernel_rfl) (by kernel_rfl) (by kernel_rfl) (fun _ _ _ h => h) ?yi_2_8 hHeld ?re_2_8
            case op_2_8 => (simp only [List.getElem?_toArray, List.getElem?_cons_succ, List.getElem?_cons_zero]; rfl)
            case yi_2_8 =>
              refine Or.inl ⟨by rfl, ?_⟩
              intro w hSw
              try dsimp only at hSw
              go_simp
              all_goals with_reducible rfl
            try simp only [Act.put, List.setIfInBounds_toArray, List.set_cons_zero, List.set_cons_succ]
            refine wpAnyH_take (i := 9) (oi := ?oq_2_9) (v := ?va_2_9) ?op_2_9 (by kernel_rfl) (by kernel_rfl) (by kernel_rfl) (fun _ _ _ h => h) ?yi_2_9 hHeld ?re_2_9
            case op_2_9 => (simp only [List.getElem?_toArray, List.getElem?_cons_succ, List.getElem?_cons_zero]; rfl)
            case yi_2_9 =>
              refine Or.inl ⟨by rfl, ?_⟩
              intro w hSw
              try dsimp only at hSw
              go_simp
              all_goals with_reducible rfl
            try simp only [Act.put, List.setIfInBounds_toArray, List.set_cons_zero, List.set_cons_succ]
            refine wpAnyH_ready (rs := [10]) (by kernel_rfl) (by simp) (AllReadyH.cons (o := ?oq_2_10) ?op_2_10 (fun K hK => ?re_2_10) AllReadyH.nil)
            case op_2_10 => (simp only [List.getElem?_toArray, List.getElem?_cons_succ, List.getElem?_cons_zero]; rfl)
            go_simp
            go_at_call 64
            refine (left_any (show _ ∧ _ from hHeld).2).mono ?_
            rintro en wz ⟨rfl, rfl⟩
            rw [hlf]
            refine hK.out _ _ (by exact hHeld) (fun hHeld => ?_)
            clear hK K
            try simp only [Act.put, List.setIfInBounds_toArray, List.set_cons_zero, List.set_cons_succ]
            refine wpAnyH_take (i := 11) (oi := ?oq_2_11) (v := ?va_2_11) ?op_2_11 (by kernel_rfl) (by kernel_rfl) (by kernel_rfl) (fun _ _ _ h => h) ?yi_2_11 hHeld ?re_2_11
            case op_2_11 => (simp only [List.getElem?_toArray, List.getElem?_cons_succ, List.getElem?_cons_zero]; rfl)
            case yi_2_11 =>
              refine Or.inl ⟨by rfl, ?_⟩
              intro w hSw
              try dsimp only at hSw
              go_simp
              all_goals with_reducible rfl
            try simp only [Act.put, List.setIfInBounds_toArray, List.set_cons_zero, List.set_cons_succ]
            refine wpAnyH_take (i := 12) (oi := ?oq_2_12) (v := ?va_2_12) ?op_2_12 (by kernel_rfl) (by kernel_rfl) (by kernel_rfl) (fun _ _ _ h => h) ?yi_2_12 hHeld ?re_2_12
            case op_2_12 => (simp only [List.getElem?_toArray, List.getElem?_cons_succ, List.getElem?_cons_zero]; rfl)
            case yi_2_12 =>
              refine Or.inl ⟨by rfl, ?_⟩
              intro w hSw
              try dsimp only at hSw
              go_simp
              all_goals with_reducible rfl
            try simp only [Act.put, List.setIfInBounds_toArray, List.set_cons_zero, List.set_cons_succ]
            refine wpAnyH_ready (rs := [13]) (by kernel_rfl) (by simp) (AllReadyH.cons (o := ?oq_2_13) ?op_2_13 (fun K hK => ?re_2_13) AllReadyH.nil)
            case op_2_13 => (simp only [List.getElem?_toArray, List.getElem?_cons_succ, List.getElem?_cons_zero]; rfl)
            rw [if_pos (by rfl)]
            refine wp_store_mid _ _ _ rfl m 0 cs.toArray rfl rfl (blk_there (show _ ∧ _ from hHeld).1) (by rw [List.size_toArray]; exact hi) hone ?_
            simp only [Act.put]
            refine hK.out _ _ (by exact ⟨BlkAt.stored (show _ ∧ _ from hHeld).1 rfl, RdAt.grown (show _ ∧ _ from hHeld).2 (grown_setCells m cs 0 _) hmr.symm⟩) (fun hHeld => ?_)
            clear hK K
            try simp only [Act.put, List.setIfInBounds_toArray, List.set_cons_zero, List.set_cons_succ]
            refine wpAnyH_take (i := 14) (oi := ?oq_2_14) (v := ?va_2_14) ?op_2_14 (by kernel_rfl) (by kernel_rfl) (by kernel_rfl) (fun _ _ _ h => h) ?yi_2_14 hHeld ?re_2_14
            case op_2_14 => (simp only [List.getElem?_toArray, List.getElem?_cons_succ, List.getElem?_cons_zero]; rfl)
            case yi_2_14 =>
              refine Or.inl ⟨by rfl, ?_⟩
              intro w hSw
              try dsimp only at hSw
              go_simp
              all_goals with_reducible rfl
            try simp only [Act.put, List.setIfInBounds_toArray, List.set_cons_zero, List.set_cons_succ]
            refine wpAnyH_done (by kernel_rfl) ?_ _
            refine NoPanic.normal ?_
            have hE : BlkAt (wr.drew.setCells m 0 cs) m 40 cs := BlkAt.stored (show BlkAt wr.drew m 40 cs from hM) rfl
            have G0 := grown_setCells m cs 0 wr.drew
            have G : wr.grownBy (wr.drew.setCells m 0 cs) (some m) := ⟨G0.os, G0.tape, G0.output, G0.size, G0.block⟩
            have HA := Lib.hid (HAT.out _ G)
            have HBE := Lib.hid (grown_below hb G hmw)
            have HE := Lib.hid hE
            have HLN := Lib.hid hlen
            have hq : q = (Mr, true) := by rw [HQ.out]; simp [hne]
            clear G0 G hE hM hone hi HAT hlen hb hHeld hR
            subst hq
            go_wp2_with fail
            exact bodyPost_ret (v := .tuple #[.agg cs.toArray, .bool true]) (results_msg rfl rfl rfl HE.out HLN.out) rfl ⟨_, rfl, HA.out, HBE.out⟩
          | false =>
            have hz : ((lr.length : Int) == 0) = false := by simpa using hln
            rw [hln] at HQ
            go_upto_region 14 with (fail)
            refine wp_region_noPanic ?_
            refine wp_region_held_drew (S := (fun w' => BlkAt w' m 40 cs ∧ RdAt w' r lr 0)) (by kernel_rfl) (by exact ⟨hM, hR⟩) (fun hHeld => ?_)
            refine wpAnyH_take (i := 0) (oi := ?oq_3_0) (v := ?va_3_0) ?op_3_0 (by kernel_rfl) (by kernel_rfl) (by kernel_rfl) (fun _ _ _ h => h) ?yi_3_0 hHeld ?re_3_0
            case op_3_0 => (simp only [List.getElem?_toArray, List.getElem?_cons_zero]; rfl)
            case yi_3_0 => exact (by
              refine yieldsIf_load_mid ?_ 40 (.tmp 2) ?_ m 0 ?_ cs _ ?_ Tryz.underlying40 ?_ hi
              · rfl
              · rfl
              · rfl
              · intro w h
                exact BlkAt.range (show _ ∧ _ from h).1
              · rfl)
            try simp only [Act.put, List.setIfInBounds_toArray, List.set_cons_zero, List.set_cons_succ]
            refine wpAnyH_take (i := 1) (oi := ?oq_3_1) (v := ?va_3_1) ?op_3_1 (by kernel_rfl) (by kernel_rfl) (by kernel_rfl) (fun _ _ _ h => h) ?yi_3_1 hHeld ?re_3_1
            case op_3_1 => (simp only [List.getElem?_toArray, List.getElem?_cons_succ, List.getElem?_cons_zero]; rfl)
            case yi_3_1 =>
              refine Or.inl ⟨by rfl, ?_⟩
              intro w hSw
              try dsimp only at hSw
              go_simp
              all_goals with_reducible rfl
            try simp only [Act.put, List.setIfInBounds_toArray, List.set_cons_zero, List.set_cons_succ]
            refine wpAnyH_take (i := 2) (oi := ?oq_3_2) (v := ?va_3_2) ?op_3_2 (by kernel_rfl) (by kernel_rfl) (by kernel_rfl) (fun _ _ _ h => h) ?yi_3_2 hHeld ?re_3_2
            case op_3_2 => (simp only [List.getElem?_toArray, List.getElem?_cons_succ, List.getElem?_cons_zero]; rfl)
            case yi_3_2 =>
              refine Or.inl ⟨by rfl, ?_⟩
              intro w hSw
              try dsimp only at hSw
              go_simp
              all_goals with_reducible rfl
            try simp only [Act.put, List.setIfInBounds_toArray, List.set_cons_zero, List.set_cons_succ]
            refine wpAnyH_take (i := 3) (oi := ?oq_3_3) (v := ?va_3_3) ?op_3_3 (by kernel_rfl) (by kernel_rfl) (by kernel_rfl) (fun _ _ _ h => h) ?yi_3_3 hHeld ?re_3_3
            case op_3_3 => (simp only [List.getElem?_toArray, List.getElem?_cons_succ, List.getElem?_cons_zero]; rfl)
            case yi_3_3 =>
              refine Or.inl ⟨by rfl, ?_⟩
              intro w hSw
              try dsimp only at hSw
              go_simp
              all_goals with_reducible rfl
            try simp only [Act.put, List.setIfInBounds_toArray, List.set_cons_zero, List.set_cons_succ]
            refine wpAnyH_take (i := 4) (oi := ?oq_3_4) (v := ?va_3_4) ?op_3_4 (by kernel_rfl) (by kernel_rfl) (by kernel_rfl) (fun _ _ _ h => h) ?yi_3_4 hHeld ?re_3_4
            case op_3_4 => (simp only [List.getElem?_toArray, List.getElem?_cons_succ, List.getElem?_cons_zero]; rfl)
            case yi_3_4 =>
              refine Or.inl ⟨by rfl, ?_⟩
              intro w hSw
              try dsimp only at hSw
              go_simp
              all_goals with_reducible rfl
            try simp only [Act.put, List.setIfInBounds_toArray, List.set_cons_zero, List.set_cons_succ]
            refine wpAnyH_ready (rs := [5]) (by kernel_rfl) (by simp) (AllReadyH.cons (o := ?oq_3_5) ?op_3_5 (fun K hK => ?re_3_5) AllReadyH.nil)
            case op_3_5 => (simp only [List.getElem?_toArray, List.getElem?_cons_succ, List.getElem?_cons_zero]; rfl)
            go_simp
            go_at_call 63
            refine (err_any (show _ ∧ _ from hHeld).2).mono ?_
            rintro en wz ⟨rfl, rfl⟩
            refine hK.out _ _ (by exact hHeld) (fun hHeld => ?_)
            clear hK K
            try simp only [Act.put, List.setIfInBounds_toArray, List.set_cons_zero, List.set_cons_succ]
            refine wpAnyH_take (i := 6) (oi := ?oq_3_6) (v := ?va_3_6) ?op_3_6 (by kernel_rfl) (by kernel_rfl) (by kernel_rfl) (fun _ _ _ h => h) ?yi_3_6 hHeld ?re_3_6
            case op_3_6 => (simp only [List.getElem?_toArray, List.getElem?_cons_succ, List.getElem?_cons_zero]; rfl)
            case yi_3_6 =>
              refine Or.inl ⟨by rfl, ?_⟩
              intro w hSw
              try dsimp only at hSw
              go_simp
              all_goals with_reducible rfl
            try simp only [Act.put, List.setIfInBounds_toArray, List.set_cons_zero, List.set_cons_succ]
            refine wpAnyH_take (i := 7) (oi := ?oq_3_7) (v := ?va_3_7) ?op_3_7 (by kernel_rfl) (by kernel_rfl) (by kernel_rfl) (fun _ _ _ h => h) ?yi_3_7 hHeld ?re_3_7
            case op_3_7 => (simp only [List.getElem?_toArray, List.getElem?_cons_succ, List.getElem?_cons_zero]; rfl)
            case yi_3_7 =>
              refine Or.inl ⟨by rfl, ?_⟩
              intro w hSw
              try dsimp only at hSw
              go_simp
              all_goals with_reducible rfl
            try simp only [Act.put, List.setIfInBounds_toArray, List.set_cons_zero, List.set_cons_succ]
            refine wpAnyH_take (i := 8) (oi := ?oq_3_8) (v := ?va_3_8) ?op_3_8 (by kernel_rfl) (by kernel_rfl) (by kernel_rfl) (fun _ _ _ h => h) ?yi_3_8 hHeld ?re_3_8
            case op_3_8 => (simp only [List.getElem?_toArray, List.getElem?_cons_succ, List.getElem?_cons_zero]; rfl)
            case yi_3_8 =>
              refine Or.inl ⟨by rfl, ?_⟩
              intro w hSw
              try dsimp only at hSw
              go_simp
              all_goals with_reducible rfl
            try simp only [Act.put, List.setIfInBounds_toArray, List.set_cons_zero, List.set_cons_succ]
            refine wpAnyH_take (i := 9) (oi := ?oq_3_9) (v := ?va_3_9) ?op_3_9 (by kernel_rfl) (by kernel_rfl) (by kernel_rfl) (fun _ _ _ h => h) ?yi_3_9 hHeld ?re_3_9
            case op_3_9 => (simp only [List.getElem?_toArray, List.getElem?_cons_succ, List.getElem?_cons_zero]; rfl)
            case yi_3_9 =>
              refine Or.inl ⟨by rfl, ?_⟩
              intro w hSw
              try dsimp only at hSw
              go_simp
              all_goals with_reducible rfl
            try simp only [Act.put, List.setIfInBounds_toArray, List.set_cons_zero, List.set_cons_succ]
            refine wpAnyH_ready (rs := [10]) (by kernel_rfl) (by simp) (AllReadyH.cons (o := ?oq_3_10) ?op_3_10 (fun K hK => ?re_3_10) AllReadyH.nil)
            case op_3_10 => (simp only [List.getElem?_toArray, List.getElem?_cons_succ, List.getElem?_cons_zero]; rfl)
            go_simp
            go_at_call 64
            refine (left_any (show _ ∧ _ from hHeld).2).mono ?_
            rintro en wz ⟨rfl, rfl⟩
            rw [hlf]
            refine hK.out _ _ (by exact hHeld) (fun hHeld => ?_)
            clear hK K
            try simp only [Act.put, List.setIfInBounds_toArray, List.set_cons_zero, List.set_cons_succ]
            refine wpAnyH_take (i := 11) (oi := ?oq_3_11) (v := ?va_3_11) ?op_3_11 (by kernel_rfl) (by kernel_rfl) (by kernel_rfl) (fun _ _ _ h => h) ?yi_3_11 hHeld ?re_3_11
            case op_3_11 => (simp only [List.getElem?_toArray, List.getElem?_cons_succ, List.getElem?_cons_zero]; rfl)
            case yi_3_11 =>
              refine Or.inl ⟨by rfl, ?_⟩
              intro w hSw
              try dsimp only at hSw
              go_simp
              all_goals with_reducible rfl
            try simp only [Act.put, List.setIfInBounds_toArray, List.set_cons_zero, List.set_cons_succ]
            refine wpAnyH_take (i := 12) (oi := ?oq_3_12) (v := ?va_3_12) ?op_3_12 (by kernel_rfl) (by kernel_rfl) (by kernel_rfl) (fun _ _ _ h => h) ?yi_3_12 hHeld ?re_3_12
            case op_3_12 => (simp only [List.getElem?_toArray, List.getElem?_cons_succ, List.getElem?_cons_zero]; rfl)
            case yi_3_12 =>
              refine Or.inl ⟨by rfl, ?_⟩
              intro w hSw
              try dsimp only at hSw
              go_simp
              all_goals with_reducible rfl
            try simp only [Act.put, List.setIfInBounds_toArray, List.set_cons_zero, List.set_cons_succ]
            refine wpAnyH_ready (rs := [13]) (by kernel_rfl) (by simp) (AllReadyH.cons (o := ?oq_3_13) ?op_3_13 (fun K hK => ?re_3_13) AllReadyH.nil)
            case op_3_13 => (simp only [List.getElem?_toArray, List.getElem?_cons_succ, List.getElem?_cons_zero]; rfl)
            rw [if_pos (by rfl)]
            refine wp_store_mid _ _ _ rfl m 0 cs.toArray rfl rfl (blk_there (show _ ∧ _ from hHeld).1) (by rw [List.size_toArray]; exact hi) hone ?_
            simp only [Act.put]
            refine hK.out _ _ (by exact ⟨BlkAt.stored (show _ ∧ _ from hHeld).1 rfl, RdAt.grown (show _ ∧ _ from hHeld).2 (grown_setCells m cs 0 _) hmr.symm⟩) (fun hHeld => ?_)
            clear hK K
            try simp only [Act.put, List.setIfInBounds_toArray, List.set_cons_zero, List.set_cons_succ]
            refine wpAnyH_take (i := 14) (oi := ?oq_3_14) (v := ?va_3_14) ?op_3_14 (by kernel_rfl) (by kernel_rfl) (by kernel_rfl) (fun _ _ _ h => h) ?yi_3_14 hHeld ?re_3_14
            case op_3_14 => (simp only [List.getElem?_toArray, List.getElem?_cons_succ, List.getElem?_cons_zero]; rfl)
            case yi_3_14 =>
              refine Or.inl ⟨by rfl, ?_⟩
              intro w hSw
              try dsimp only at hSw
              go_simp
              all_goals with_reducible rfl
            try simp only [Act.put, List.setIfInBounds_toArray, List.set_cons_zero, List.set_cons_succ]
            refine wpAnyH_done (by kernel_rfl) ?_ _
            refine NoPanic.normal ?_
            have hE : BlkAt (wr.drew.setCells m 0 cs) m 40 cs := BlkAt.stored (show BlkAt wr.drew m 40 cs from hM) rfl
            have G0 := grown_setCells m cs 0 wr.drew
            have G : wr.grownBy (wr.drew.setCells m 0 cs) (some m) := ⟨G0.os, G0.tape, G0.output, G0.size, G0.block⟩
            have HA := Lib.hid (HAT.out _ G)
            have HBE := Lib.hid (grown_below hb G hmw)
            have HE := Lib.hid hE
            have HLN := Lib.hid hlen
            have hq : q = (Mr, false) := by rw [HQ.out]; simp
            clear G0 G hE hM hone hi HAT hlen hb hHeld hR
            subst hq
            go_wp2_with fail
            exact bodyPost_ret (v := .tuple #[.agg cs.toArray, .bool false]) (results_msg rfl rfl rfl HE.out HLN.out) rfl ⟨_, rfl, HA.out, HBE.out⟩
        · have he0 : (er == 0) = false := by simpa using he
          go_upto_region 14 with (fail)
          refine wp_region_noPanic ?_
          refine wp_region_held_drew (S := (fun w' => BlkAt w' m 40 cs ∧ RdAt w' r lr er)) (by kernel_rfl) (by exact ⟨hM, hR⟩) (fun hHeld => ?_)
          refine wpAnyH_take (i := 0) (oi := ?oq_4_0) (v := ?va_4_0) ?op_4_0 (by kernel_rfl) (by kernel_rfl) (by kernel_rfl) (fun _ _ _ h => h) ?yi_4_0 hHeld ?re_4_0
          case op_4_0 => (simp only [List.getElem?_toArray, List.getElem?_cons_zero]; rfl)
          case yi_4_0 => exact (by
            refine yieldsIf_load_mid ?_ 40 (.tmp 2) ?_ m 0 ?_ cs _ ?_ Tryz.underlying40 ?_ hi
            · rfl
            · rfl
            · rfl
            · intro w h
              exact BlkAt.range (show _ ∧ _ from h).1
            · rfl)
          try simp only [Act.put, List.setIfInBounds_toArray, List.set_cons_zero, List.set_cons_succ]
          refine wpAnyH_take (i := 1) (oi := ?oq_4_1) (v := ?va_4_1) ?op_4_1 (by kernel_rfl) (by kernel_rfl) (by kernel_rfl) (fun _ _ _ h => h) ?yi_4_1 hHeld ?re_4_1
          case op_4_1 => (simp only [List.getElem?_toArray, List.getElem?_cons_succ, List.getElem?_cons_zero]; rfl)
          case yi_4_1 =>
            refine Or.inl ⟨by rfl, ?_⟩
            intro w hSw
            try dsimp only at hSw
            go_simp
            all_goals with_reducible rfl
          try simp only [Act.put, List.setIfInBounds_toArray, List.set_cons_zero, List.set_cons_succ]
          refine wpAnyH_take (i := 2) (oi := ?oq_4_2) (v := ?va_4_2) ?op_4_2 (by kernel_rfl) (by kernel_rfl) (by kernel_rfl) (fun _ _ _ h => h) ?yi_4_2 hHeld ?re_4_2
          case op_4_2 => (simp only [List.getElem?_toArray, List.getElem?_cons_succ, List.getElem?_cons_zero]; rfl)
          case yi_4_2 =>
            refine Or.inl ⟨by rfl, ?_⟩
            intro w hSw
            try dsimp only at hSw
            go_simp
            all_goals with_reducible rfl
          try simp only [Act.put, List.setIfInBounds_toArray, List.set_cons_zero, List.set_cons_succ]
          refine wpAnyH_take (i := 3) (oi := ?oq_4_3) (v := ?va_4_3) ?op_4_3 (by kernel_rfl) (by kernel_rfl) (by kernel_rfl) (fun _ _ _ h => h) ?yi_4_3 hHeld ?re_4_3
          case op_4_3 => (simp only [List.getElem?_toArray, List.getElem?_cons_succ, List.getElem?_cons_zero]; rfl)
          case yi_4_3 =>
            refine Or.inl ⟨by rfl, ?_⟩
            intro w hSw
            try dsimp only at hSw
            go_simp
            all_goals with_reducible rfl
          try simp only [Act.put, List.setIfInBounds_toArray, List.set_cons_zero, List.set_cons_succ]
          refine wpAnyH_take (i := 4) (oi := ?oq_4_4) (v := ?va_4_4) ?op_4_4 (by kernel_rfl) (by kernel_rfl) (by kernel_rfl) (fun _ _ _ h => h) ?yi_4_4 hHeld ?re_4_4
          case op_4_4 => (simp only [List.getElem?_toArray, List.getElem?_cons_succ, List.getElem?_cons_zero]; rfl)
          case yi_4_4 =>
            refine Or.inl ⟨by rfl, ?_⟩
            intro w hSw
            try dsimp only at hSw
            go_simp
            all_goals with_reducible rfl
          try simp only [Act.put, List.setIfInBounds_toArray, List.set_cons_zero, List.set_cons_succ]
          refine wpAnyH_ready (rs := [5]) (by kernel_rfl) (by simp) (AllReadyH.cons (o := ?oq_4_5) ?op_4_5 (fun K hK => ?re_4_5) AllReadyH.nil)
          case op_4_5 => (simp only [List.getElem?_toArray, List.getElem?_cons_succ, List.getElem?_cons_zero]; rfl)
          go_simp
          go_at_call 63
          refine (err_any (show _ ∧ _ from hHeld).2).mono ?_
          rintro en wz ⟨rfl, rfl⟩
          refine hK.out _ _ (by exact hHeld) (fun hHeld => ?_)
          clear hK K
          try simp only [Act.put, List.setIfInBounds_toArray, List.set_cons_zero, List.set_cons_succ]
          refine wpAnyH_take (i := 6) (oi := ?oq_4_6) (v := ?va_4_6) ?op_4_6 (by kernel_rfl) (by kernel_rfl) (by kernel_rfl) (fun _ _ _ h => h) ?yi_4_6 hHeld ?re_4_6
          case op_4_6 => (simp only [List.getElem?_toArray, List.getElem?_cons_succ, List.getElem?_cons_zero]; rfl)
          case yi_4_6 =>
            refine Or.inl ⟨by rfl, ?_⟩
            intro w hSw
            try dsimp only at hSw
            go_simp
            all_goals with_reducible rfl
          try simp only [Act.put, List.setIfInBounds_toArray, List.set_cons_zero, List.set_cons_succ]
          refine wpAnyH_take (i := 7) (oi := ?oq_4_7) (v := ?va_4_7) ?op_4_7 (by kernel_rfl) (by kernel_rfl) (by kernel_rfl) (fun _ _ _ h => h) ?yi_4_7 hHeld ?re_4_7
          case op_4_7 => (simp only [List.getElem?_toArray, List.getElem?_cons_succ, List.getElem?_cons_zero]; rfl)
          case yi_4_7 =>
            refine Or.inl ⟨by rfl, ?_⟩
            intro w hSw
            try dsimp only at hSw
            go_simp
            all_goals with_reducible rfl
          try simp only [Act.put, List.setIfInBounds_toArray, List.set_cons_zero, List.set_cons_succ]
          refine wpAnyH_take (i := 8) (oi := ?oq_4_8) (v := ?va_4_8) ?op_4_8 (by kernel_rfl) (by kernel_rfl) (by kernel_rfl) (fun _ _ _ h => h) ?yi_4_8 hHeld ?re_4_8
          case op_4_8 => (simp only [List.getElem?_toArray, List.getElem?_cons_succ, List.getElem?_cons_zero]; rfl)
          case yi_4_8 =>
            refine Or.inl ⟨by rfl, ?_⟩
            intro w hSw
            try dsimp only at hSw
            go_simp
            all_goals with_reducible rfl
          try simp only [Act.put, List.setIfInBounds_toArray, List.set_cons_zero, List.set_cons_succ]
          refine wpAnyH_take (i := 9) (oi := ?oq_4_9) (v := undef) ?op_4_9 (by kernel_rfl) (by kernel_rfl) (by kernel_rfl) (fun _ _ _ h => h) ?yi_4_9 hHeld ?re_4_9
          case op_4_9 => (simp only [List.getElem?_toArray, List.getElem?_cons_succ, List.getElem?_cons_zero]; rfl)
          case yi_4_9 => exact Or.inr ⟨by rfl, rfl⟩
          try simp only [Act.put, List.setIfInBounds_toArray, List.set_cons_zero, List.set_cons_succ]
          refine wpAnyH_take (i := 10) (oi := ?oq_4_10) (v := undef) ?op_4_10 (by kernel_rfl) (by kernel_rfl) (by kernel_rfl) (fun _ _ _ h => h) ?yi_4_10 hHeld ?re_4_10
          case op_4_10 => (simp only [List.getElem?_toArray, List.getElem?_cons_succ, List.getElem?_cons_zero]; rfl)
          case yi_4_10 => exact Or.inr ⟨by rfl, rfl⟩
          try simp only [Act.put, List.setIfInBounds_toArray, List.set_cons_zero, List.set_cons_succ]
          refine wpAnyH_take (i := 11) (oi := ?oq_4_11) (v := undef) ?op_4_11 (by kernel_rfl) (by kernel_rfl) (by kernel_rfl) (fun _ _ _ h => h) ?yi_4_11 hHeld ?re_4_11
          case op_4_11 => (simp only [List.getElem?_toArray, List.getElem?_cons_succ, List.getElem?_cons_zero]; rfl)
          case yi_4_11 => exact Or.inr ⟨by rfl, rfl⟩
          try simp only [Act.put, List.setIfInBounds_toArray, List.set_cons_zero, List.set_cons_succ]
          refine wpAnyH_take (i := 12) (oi := ?oq_4_12) (v := ?va_4_12) ?op_4_12 (by kernel_rfl) (by kernel_rfl) (by kernel_rfl) (fun _ _ _ h => h) ?yi_4_12 hHeld ?re_4_12
          case op_4_12 => (simp only [List.getElem?_toArray, List.getElem?_cons_succ, List.getElem?_cons_zero]; rfl)
          case yi_4_12 =>
            refine Or.inl ⟨by rfl, ?_⟩
            intro w hSw
            try dsimp only at hSw
            go_simp
            all_goals with_reducible rfl
          try simp only [Act.put, List.setIfInBounds_toArray, List.set_cons_zero, List.set_cons_succ]
          refine wpAnyH_ready (rs := [13]) (by kernel_rfl) (by simp) (AllReadyH.cons (o := ?oq_4_13) ?op_4_13 (fun K hK => ?re_4_13) AllReadyH.nil)
          case op_4_13 => (simp only [List.getElem?_toArray, List.getElem?_cons_succ, List.getElem?_cons_zero]; rfl)
          rw [if_pos (by rfl)]
          refine wp_store_mid _ _ _ rfl m 0 cs.toArray rfl rfl (blk_there (show _ ∧ _ from hHeld).1) (by rw [List.size_toArray]; exact hi) hone ?_
          simp only [Act.put]
          refine hK.out _ _ (by exact ⟨BlkAt.stored (show _ ∧ _ from hHeld).1 rfl, RdAt.grown (show _ ∧ _ from hHeld).2 (grown_setCells m cs 0 _) hmr.symm⟩) (fun hHeld => ?_)
          clear hK K
          try simp only [Act.put, List.setIfInBounds_toArray, List.set_cons_zero, List.set_cons_succ]
          refine wpAnyH_take (i := 14) (oi := ?oq_4_14) (v := ?va_4_14) ?op_4_14 (by kernel_rfl) (by kernel_rfl) (by kernel_rfl) (fun _ _ _ h => h) ?yi_4_14 hHeld ?re_4_14
          case op_4_14 => (simp only [List.getElem?_toArray, List.getElem?_cons_succ, List.getElem?_cons_zero]; rfl)
          case yi_4_14 =>
            refine Or.inl ⟨by rfl, ?_⟩
            intro w hSw
            try dsimp only at hSw
            go_simp
            all_goals with_reducible rfl
          try simp only [Act.put, List.setIfInBounds_toArray, List.set_cons_zero, List.set_cons_succ]
          refine wpAnyH_done (by kernel_rfl) ?_ _
          refine NoPanic.normal ?_
          have hE : BlkAt (wr.drew.setCells m 0 cs) m 40 cs := BlkAt.stored (show BlkAt wr.drew m 40 cs from hM) rfl
          have G0 := grown_setCells m cs 0 wr.drew
          have G : wr.grownBy (wr.drew.setCells m 0 cs) (some m) := ⟨G0.os, G0.tape, G0.output, G0.size, G0.block⟩
          have HA := Lib.hid (HAT.out _ G)
          have HBE := Lib.hid (grown_below hb G hmw)
          have HE := Lib.hid hE
          have HLN := Lib.hid hlen
          have hq : q = (Mr, false) := by rw [HQ.out]; simp [he]
          clear G0 G hE hM hone hi HAT hlen hb hHeld hR
          subst hq
          go_wp2_with fail
          exact bodyPost_ret (v := .tuple #[.agg cs.toArray, .bool false]) (results_msg rfl rfl rfl HE.out HLN.out) rfl ⟨_, rfl, HA.out, HBE.out⟩
theorem wread0_any {w : World} {s : List UInt8} (hs : s.length ≤ 1000000) :
    Calls Tryz.prog 41 #[.string ⟨s.toArray⟩] w fun en w' => ∃ v, en = .returned (.tuple #[v, .bool (rawM s).2]) ∧ (rawM s).1.From w.heap.size w' v ∧ Below w.heap.size w w' := by
  cases hw : whole s with
  | true => exact wread0_whole hs hw
  | false =>
    have : rawM s = (msgZero, false) := by rw [rawM, hw]; rfl
    rw [this]
    exact wread0_torn hs hw
end Go.Proofs.YtnaabaahfjklhaaGreat
