/- The desk's fields that are numbers: written, and read. -/
import Derived.Test.YtnaabaahfjklhaaGreatWireRead
namespace Go.Proofs.YtnaabaahfjklhaaGreat
open Go.RowKit Go.ChangeShapes Go.WideShapes Go.Joins Go.Deep
set_option linter.unusedVariables false

/-- All but the reader r and the message m is as it was. -/
structure RKeep (w w' : World) (r m : Nat) : Prop where
  os : w'.os = w.os
  tape : w'.tape = w.tape
  output : w'.output = w.output
  size : w.heap.size ≤ w'.heap.size
  block : ∀ k, k < w.heap.size → k ≠ r → k ≠ m → w'.heap[k]? = w.heap[k]?
theorem read_keep {w w' : World} {r m : Nat} {o : Obj} {P : List ((Nat × Nat) × Int)} (h : ReadTo (w.alloc o) w' r P) (hP : ∀ p ∈ P, p.1.1 = m) : RKeep w w' r m :=
  ⟨h.os, h.tape, h.output, Nat.le_trans (by simp) h.size, fun k hk hr hm => (h.other k (by simp; omega) hr fun p hp e => hm (by rw [← e, hP p hp])).trans (heap_alloc_old _ _ hk)⟩
theorem msg_rd {w : World} {r m : Nat} {l : List UInt8} {e : Int} {cs : List Value} (hM : BlkAt w m 40 cs) (hR : RdAt w r l e) : m ≠ r := by
  rintro rfl
  unfold RdAt at hR
  rw [hM] at hR
  simp at hR
theorem desk_rd {w : World} {r d : Nat} {l : List UInt8} {e : Int} {cs : List Value} (hD : BlkAt w d 118 cs) (hR : RdAt w r l e) : d ≠ r := by
  rintro rfl
  unfold RdAt at hR
  rw [hD] at hR
  simp at hR
theorem desk_msg {w : World} {m d : Nat} {cs ds : List Value} (hD : BlkAt w d 118 ds) (hM : BlkAt w m 40 cs) : d ≠ m := by
  rintro rfl
  unfold BlkAt at hM hD
  rw [hD] at hM
  simp at hM
theorem readTo_desk {w w' : World} {r d m : Nat} {cs : List Value} {P : List ((Nat × Nat) × Int)} (h : ReadTo w w' r P) (hD : BlkAt w d 118 cs) (hdm : d ≠ m) (hdr : d ≠ r) (hP : ∀ p ∈ P, p.1.1 = m) : BlkAt w' d 118 cs :=
  h.same hD hdr fun p hp e => hdm (by rw [← e, hP p hp])

set_option maxRecDepth 100000 in
set_option maxHeartbeats 1000000 in
theorem depoch_w {w : World} {B b d m : Nat} {l : List UInt8} {rv : Value} {cs : List Value} {x4 : Int} (hD : BlkAt w d 118 [.pointer (some ⟨m, 0, none⟩), .pointer (some ⟨b, 0, none⟩), rv]) (hM : BlkAt w m 40 cs) (h4 : cs[4]? = some (.int .i64 x4)) (w4 : W64 x4)
    (hB : BldAt B b l w) (hBw : B ≤ w.heap.size) (hl : l.length ≤ 10000000) :
    Calls Tryz.prog 76 #[.pointer (some ⟨d, 0, none⟩)] w fun e w' => e = .returned (.tuple #[]) ∧ BldAt B b (l ++ encI [x4]) w' ∧ Below B w w' ∧ TKeep w w' := by
  have c0 : w.cell? ⟨d, 0, none⟩ = some (.pointer (some ⟨m, 0, none⟩)) := hD.cell rfl
  have hP : PtrsAt B (w.alloc (.cells #[.pointer (some ⟨m, 4, none⟩)] 123)) w.heap.size [(m, 4)] [x4] := by
    refine ⟨BlkAt.new w 123 [.pointer (some ⟨m, 4, none⟩)], rfl, fun i A x g1 g2 => ?_⟩
    match i, g1, g2 with
    | 0, g1, g2 => simp at g1 g2; obtain rfl := g1; obtain rfl := g2; exact .inl ⟨_, _, _, hM.alloc (.cells #[.pointer (some ⟨m, 4, none⟩)] 123), by decide, by decide, by simpa using h4⟩
  have hx : ∀ x ∈ [x4], W64 x := by
    intro x hx
    simp only [List.mem_cons, List.not_mem_nil, or_false] at hx
    subst hx
    all_goals assumption
  have bb0 : Below w.heap.size w (w.alloc (.cells #[.pointer (some ⟨m, 4, none⟩)] 123)) := (Below.refl _ _).alloc (Nat.le_refl _) _
  have bb : Below w.heap.size w (w.alloc (.cells #[.pointer (some ⟨m, 4, none⟩)] 123)) := ⟨bb0.os, bb0.tape, bb0.output, bb0.size, bb0.block⟩
  have k0 : TKeep w (w.alloc (.cells #[.pointer (some ⟨m, 4, none⟩)] 123)) := TKeep.below bb
  have b0 : Below B w (w.alloc (.cells #[.pointer (some ⟨m, 4, none⟩)] 123)) := bb.mono hBw
  go_enter Tryz.func76, Tryz.ntmps76
  go_wp2_with fail
  refine (ints_write (As := [(m, 4)]) (xs := [x4]) (by exact hD.alloc (.cells #[.pointer (some ⟨m, 4, none⟩)] 123)) (by exact hP) hx (by exact BldAt.below hB bb) (by exact Nat.le_trans hBw bb.size) hl (by simp)).mono ?_
  rintro en wz ⟨rfl, hB2, b2, k2⟩
  have HB := Lib.hid hB2
  have HK := Lib.hid (k0.trans k2)
  have HW := Lib.hid (b0.trans b2)
  clear hB2 k2 b2 hP hx c0 k0 b0
  go_wp2_with fail
  go_end0
  exact ⟨rfl, HB.out, HW.out, HK.out⟩
set_option maxRecDepth 100000 in
set_option maxHeartbeats 1000000 in
theorem depoch_r {w : World} {r d m : Nat} {l : List UInt8} {e : Int} {cs : List Value} {x4 : Int} (hD : BlkAt w d 118 [.pointer (some ⟨m, 0, none⟩), .pointer none, .pointer (some ⟨r, 0, none⟩)]) (hM : BlkAt w m 40 cs) (h4 : cs[4]? = some (.int .i64 x4))
    (hR : RdAt w r l e) (hl : l.length ≤ 1000000) {l2 : List UInt8} {e2 : Int} {v0 : Int} (hr : rdIs 1 l e = ([v0], l2, e2)) :
    Calls Tryz.prog 76 #[.pointer (some ⟨d, 0, none⟩)] w fun en w' => en = .returned (.tuple #[]) ∧ RdAt w' r l2 e2 ∧ BlkAt w' m 40 (cs.set 4 (.int .i64 v0)) ∧ RKeep w w' r m := by
  have c0 : w.cell? ⟨d, 0, none⟩ = some (.pointer (some ⟨m, 0, none⟩)) := hD.cell rfl
  have HRR := Lib.hid hr
  clear hr
  have hmr := msg_rd hM hR
  have hdm := desk_msg hD hM
  have hP : SlotsAt (w.alloc (.cells #[.pointer (some ⟨m, 4, none⟩)] 123)) w.heap.size [(m, 4)] := by
    refine ⟨BlkAt.new w 123 [.pointer (some ⟨m, 4, none⟩)], fun i A g1 => ?_⟩
    match i, g1 with
    | 0, g1 => simp at g1; obtain rfl := g1; exact ⟨_, _, hM.alloc (.cells #[.pointer (some ⟨m, 4, none⟩)] 123), by decide, by decide, by decide, _, by simpa using h4⟩
  have bb0 : Below w.heap.size w (w.alloc (.cells #[.pointer (some ⟨m, 4, none⟩)] 123)) := (Below.refl _ _).alloc (Nat.le_refl _) _
  have bb : Below w.heap.size w (w.alloc (.cells #[.pointer (some ⟨m, 4, none⟩)] 123)) := ⟨bb0.os, bb0.tape, bb0.output, bb0.size, bb0.block⟩
  go_enter Tryz.func76, Tryz.ntmps76
  go_wp2_with fail
  refine (ints_rd (As := [(m, 4)]) HRR rfl (by exact hD.alloc (.cells #[.pointer (some ⟨m, 4, none⟩)] 123)) (by exact hP) (by exact RdAt.below hR bb) hl (by decide)).mono ?_
  rintro en wz ⟨rfl, hR2, hT⟩
  have HR := Lib.hid hR2
  have HT := Lib.hid hT
  clear hR2 hT hP c0
  go_wp2_with fail
  go_end0
  have hT1 : ReadTo (w.alloc (.cells #[.pointer (some ⟨m, 4, none⟩)] 123)) wz r (List.zip [(m, 4)] [v0]) := HT.out
  have hT3 : ReadTo (w.alloc (.cells #[.pointer (some ⟨m, 4, none⟩)] 123)) wz r (List.zip [(m, 4)] [v0]) := ⟨hT1.os, hT1.tape, hT1.output, hT1.size, hT1.cells, hT1.other⟩
  have h2 := hT3.cells m _ _ _ hmr (hM.alloc (.cells #[.pointer (some ⟨m, 4, none⟩)] 123))
  exact ⟨rfl, HR.out, by simpa [updB, BlkAt] using h2, read_keep hT3 (by simp)⟩
set_option maxRecDepth 100000 in
set_option maxHeartbeats 1000000 in
theorem dseq_w {w : World} {B b d m : Nat} {l : List UInt8} {rv : Value} {cs : List Value} {x5 : Int} (hD : BlkAt w d 118 [.pointer (some ⟨m, 0, none⟩), .pointer (some ⟨b, 0, none⟩), rv]) (hM : BlkAt w m 40 cs) (h5 : cs[5]? = some (.int .i64 x5)) (w5 : W64 x5)
    (hB : BldAt B b l w) (hBw : B ≤ w.heap.size) (hl : l.length ≤ 10000000) :
    Calls Tryz.prog 78 #[.pointer (some ⟨d, 0, none⟩)] w fun e w' => e = .returned (.tuple #[]) ∧ BldAt B b (l ++ encI [x5]) w' ∧ Below B w w' ∧ TKeep w w' := by
  have c0 : w.cell? ⟨d, 0, none⟩ = some (.pointer (some ⟨m, 0, none⟩)) := hD.cell rfl
  have hP : PtrsAt B (w.alloc (.cells #[.pointer (some ⟨m, 5, none⟩)] 123)) w.heap.size [(m, 5)] [x5] := by
    refine ⟨BlkAt.new w 123 [.pointer (some ⟨m, 5, none⟩)], rfl, fun i A x g1 g2 => ?_⟩
    match i, g1, g2 with
    | 0, g1, g2 => simp at g1 g2; obtain rfl := g1; obtain rfl := g2; exact .inl ⟨_, _, _, hM.alloc (.cells #[.pointer (some ⟨m, 5, none⟩)] 123), by decide, by decide, by simpa using h5⟩
  have hx : ∀ x ∈ [x5], W64 x := by
    intro x hx
    simp only [List.mem_cons, List.not_mem_nil, or_false] at hx
    subst hx
    all_goals assumption
  have bb0 : Below w.heap.size w (w.alloc (.cells #[.pointer (some ⟨m, 5, none⟩)] 123)) := (Below.refl _ _).alloc (Nat.le_refl _) _
  have bb : Below w.heap.size w (w.alloc (.cells #[.pointer (some ⟨m, 5, none⟩)] 123)) := ⟨bb0.os, bb0.tape, bb0.output, bb0.size, bb0.block⟩
  have k0 : TKeep w (w.alloc (.cells #[.pointer (some ⟨m, 5, none⟩)] 123)) := TKeep.below bb
  have b0 : Below B w (w.alloc (.cells #[.pointer (some ⟨m, 5, none⟩)] 123)) := bb.mono hBw
  go_enter Tryz.func78, Tryz.ntmps78
  go_wp2_with fail
  refine (ints_write (As := [(m, 5)]) (xs := [x5]) (by exact hD.alloc (.cells #[.pointer (some ⟨m, 5, none⟩)] 123)) (by exact hP) hx (by exact BldAt.below hB bb) (by exact Nat.le_trans hBw bb.size) hl (by simp)).mono ?_
  rintro en wz ⟨rfl, hB2, b2, k2⟩
  have HB := Lib.hid hB2
  have HK := Lib.hid (k0.trans k2)
  have HW := Lib.hid (b0.trans b2)
  clear hB2 k2 b2 hP hx c0 k0 b0
  go_wp2_with fail
  go_end0
  exact ⟨rfl, HB.out, HW.out, HK.out⟩
set_option maxRecDepth 100000 in
set_option maxHeartbeats 1000000 in
theorem dseq_r {w : World} {r d m : Nat} {l : List UInt8} {e : Int} {cs : List Value} {x5 : Int} (hD : BlkAt w d 118 [.pointer (some ⟨m, 0, none⟩), .pointer none, .pointer (some ⟨r, 0, none⟩)]) (hM : BlkAt w m 40 cs) (h5 : cs[5]? = some (.int .i64 x5))
    (hR : RdAt w r l e) (hl : l.length ≤ 1000000) {l2 : List UInt8} {e2 : Int} {v0 : Int} (hr : rdIs 1 l e = ([v0], l2, e2)) :
    Calls Tryz.prog 78 #[.pointer (some ⟨d, 0, none⟩)] w fun en w' => en = .returned (.tuple #[]) ∧ RdAt w' r l2 e2 ∧ BlkAt w' m 40 (cs.set 5 (.int .i64 v0)) ∧ RKeep w w' r m := by
  have c0 : w.cell? ⟨d, 0, none⟩ = some (.pointer (some ⟨m, 0, none⟩)) := hD.cell rfl
  have HRR := Lib.hid hr
  clear hr
  have hmr := msg_rd hM hR
  have hdm := desk_msg hD hM
  have hP : SlotsAt (w.alloc (.cells #[.pointer (some ⟨m, 5, none⟩)] 123)) w.heap.size [(m, 5)] := by
    refine ⟨BlkAt.new w 123 [.pointer (some ⟨m, 5, none⟩)], fun i A g1 => ?_⟩
    match i, g1 with
    | 0, g1 => simp at g1; obtain rfl := g1; exact ⟨_, _, hM.alloc (.cells #[.pointer (some ⟨m, 5, none⟩)] 123), by decide, by decide, by decide, _, by simpa using h5⟩
  have bb0 : Below w.heap.size w (w.alloc (.cells #[.pointer (some ⟨m, 5, none⟩)] 123)) := (Below.refl _ _).alloc (Nat.le_refl _) _
  have bb : Below w.heap.size w (w.alloc (.cells #[.pointer (some ⟨m, 5, none⟩)] 123)) := ⟨bb0.os, bb0.tape, bb0.output, bb0.size, bb0.block⟩
  go_enter Tryz.func78, Tryz.ntmps78
  go_wp2_with fail
  refine (ints_rd (As := [(m, 5)]) HRR rfl (by exact hD.alloc (.cells #[.pointer (some ⟨m, 5, none⟩)] 123)) (by exact hP) (by exact RdAt.below hR bb) hl (by decide)).mono ?_
  rintro en wz ⟨rfl, hR2, hT⟩
  have HR := Lib.hid hR2
  have HT := Lib.hid hT
  clear hR2 hT hP c0
  go_wp2_with fail
  go_end0
  have hT1 : ReadTo (w.alloc (.cells #[.pointer (some ⟨m, 5, none⟩)] 123)) wz r (List.zip [(m, 5)] [v0]) := HT.out
  have hT3 : ReadTo (w.alloc (.cells #[.pointer (some ⟨m, 5, none⟩)] 123)) wz r (List.zip [(m, 5)] [v0]) := ⟨hT1.os, hT1.tape, hT1.output, hT1.size, hT1.cells, hT1.other⟩
  have h2 := hT3.cells m _ _ _ hmr (hM.alloc (.cells #[.pointer (some ⟨m, 5, none⟩)] 123))
  exact ⟨rfl, HR.out, by simpa [updB, BlkAt] using h2, read_keep hT3 (by simp)⟩
set_option maxRecDepth 100000 in
set_option maxHeartbeats 1000000 in
theorem dreq_w {w : World} {B b d m : Nat} {l : List UInt8} {rv : Value} {cs : List Value} {x6 : Int} (hD : BlkAt w d 118 [.pointer (some ⟨m, 0, none⟩), .pointer (some ⟨b, 0, none⟩), rv]) (hM : BlkAt w m 40 cs) (h6 : cs[6]? = some (.int .i64 x6)) (w6 : W64 x6)
    (hB : BldAt B b l w) (hBw : B ≤ w.heap.size) (hl : l.length ≤ 10000000) :
    Calls Tryz.prog 83 #[.pointer (some ⟨d, 0, none⟩)] w fun e w' => e = .returned (.tuple #[]) ∧ BldAt B b (l ++ encI [x6]) w' ∧ Below B w w' ∧ TKeep w w' := by
  have c0 : w.cell? ⟨d, 0, none⟩ = some (.pointer (some ⟨m, 0, none⟩)) := hD.cell rfl
  have hP : PtrsAt B (w.alloc (.cells #[.pointer (some ⟨m, 6, none⟩)] 123)) w.heap.size [(m, 6)] [x6] := by
    refine ⟨BlkAt.new w 123 [.pointer (some ⟨m, 6, none⟩)], rfl, fun i A x g1 g2 => ?_⟩
    match i, g1, g2 with
    | 0, g1, g2 => simp at g1 g2; obtain rfl := g1; obtain rfl := g2; exact .inl ⟨_, _, _, hM.alloc (.cells #[.pointer (some ⟨m, 6, none⟩)] 123), by decide, by decide, by simpa using h6⟩
  have hx : ∀ x ∈ [x6], W64 x := by
    intro x hx
    simp only [List.mem_cons, List.not_mem_nil, or_false] at hx
    subst hx
    all_goals assumption
  have bb0 : Below w.heap.size w (w.alloc (.cells #[.pointer (some ⟨m, 6, none⟩)] 123)) := (Below.refl _ _).alloc (Nat.le_refl _) _
  have bb : Below w.heap.size w (w.alloc (.cells #[.pointer (some ⟨m, 6, none⟩)] 123)) := ⟨bb0.os, bb0.tape, bb0.output, bb0.size, bb0.block⟩
  have k0 : TKeep w (w.alloc (.cells #[.pointer (some ⟨m, 6, none⟩)] 123)) := TKeep.below bb
  have b0 : Below B w (w.alloc (.cells #[.pointer (some ⟨m, 6, none⟩)] 123)) := bb.mono hBw
  go_enter Tryz.func83, Tryz.ntmps83
  go_wp2_with fail
  refine (ints_write (As := [(m, 6)]) (xs := [x6]) (by exact hD.alloc (.cells #[.pointer (some ⟨m, 6, none⟩)] 123)) (by exact hP) hx (by exact BldAt.below hB bb) (by exact Nat.le_trans hBw bb.size) hl (by simp)).mono ?_
  rintro en wz ⟨rfl, hB2, b2, k2⟩
  have HB := Lib.hid hB2
  have HK := Lib.hid (k0.trans k2)
  have HW := Lib.hid (b0.trans b2)
  clear hB2 k2 b2 hP hx c0 k0 b0
  go_wp2_with fail
  go_end0
  exact ⟨rfl, HB.out, HW.out, HK.out⟩
set_option maxRecDepth 100000 in
set_option maxHeartbeats 1000000 in
theorem dreq_r {w : World} {r d m : Nat} {l : List UInt8} {e : Int} {cs : List Value} {x6 : Int} (hD : BlkAt w d 118 [.pointer (some ⟨m, 0, none⟩), .pointer none, .pointer (some ⟨r, 0, none⟩)]) (hM : BlkAt w m 40 cs) (h6 : cs[6]? = some (.int .i64 x6))
    (hR : RdAt w r l e) (hl : l.length ≤ 1000000) {l2 : List UInt8} {e2 : Int} {v0 : Int} (hr : rdIs 1 l e = ([v0], l2, e2)) :
    Calls Tryz.prog 83 #[.pointer (some ⟨d, 0, none⟩)] w fun en w' => en = .returned (.tuple #[]) ∧ RdAt w' r l2 e2 ∧ BlkAt w' m 40 (cs.set 6 (.int .i64 v0)) ∧ RKeep w w' r m := by
  have c0 : w.cell? ⟨d, 0, none⟩ = some (.pointer (some ⟨m, 0, none⟩)) := hD.cell rfl
  have HRR := Lib.hid hr
  clear hr
  have hmr := msg_rd hM hR
  have hdm := desk_msg hD hM
  have hP : SlotsAt (w.alloc (.cells #[.pointer (some ⟨m, 6, none⟩)] 123)) w.heap.size [(m, 6)] := by
    refine ⟨BlkAt.new w 123 [.pointer (some ⟨m, 6, none⟩)], fun i A g1 => ?_⟩
    match i, g1 with
    | 0, g1 => simp at g1; obtain rfl := g1; exact ⟨_, _, hM.alloc (.cells #[.pointer (some ⟨m, 6, none⟩)] 123), by decide, by decide, by decide, _, by simpa using h6⟩
  have bb0 : Below w.heap.size w (w.alloc (.cells #[.pointer (some ⟨m, 6, none⟩)] 123)) := (Below.refl _ _).alloc (Nat.le_refl _) _
  have bb : Below w.heap.size w (w.alloc (.cells #[.pointer (some ⟨m, 6, none⟩)] 123)) := ⟨bb0.os, bb0.tape, bb0.output, bb0.size, bb0.block⟩
  go_enter Tryz.func83, Tryz.ntmps83
  go_wp2_with fail
  refine (ints_rd (As := [(m, 6)]) HRR rfl (by exact hD.alloc (.cells #[.pointer (some ⟨m, 6, none⟩)] 123)) (by exact hP) (by exact RdAt.below hR bb) hl (by decide)).mono ?_
  rintro en wz ⟨rfl, hR2, hT⟩
  have HR := Lib.hid hR2
  have HT := Lib.hid hT
  clear hR2 hT hP c0
  go_wp2_with fail
  go_end0
  have hT1 : ReadTo (w.alloc (.cells #[.pointer (some ⟨m, 6, none⟩)] 123)) wz r (List.zip [(m, 6)] [v0]) := HT.out
  have hT3 : ReadTo (w.alloc (.cells #[.pointer (some ⟨m, 6, none⟩)] 123)) wz r (List.zip [(m, 6)] [v0]) := ⟨hT1.os, hT1.tape, hT1.output, hT1.size, hT1.cells, hT1.other⟩
  have h2 := hT3.cells m _ _ _ hmr (hM.alloc (.cells #[.pointer (some ⟨m, 6, none⟩)] 123))
  exact ⟨rfl, HR.out, by simpa [updB, BlkAt] using h2, read_keep hT3 (by simp)⟩
set_option maxRecDepth 100000 in
set_option maxHeartbeats 1000000 in
theorem dclient_w {w : World} {B b d m : Nat} {l : List UInt8} {rv : Value} {cs : List Value} {x7 : Int} (hD : BlkAt w d 118 [.pointer (some ⟨m, 0, none⟩), .pointer (some ⟨b, 0, none⟩), rv]) (hM : BlkAt w m 40 cs) (h7 : cs[7]? = some (.int .i64 x7)) (w7 : W64 x7)
    (hB : BldAt B b l w) (hBw : B ≤ w.heap.size) (hl : l.length ≤ 10000000) :
    Calls Tryz.prog 86 #[.pointer (some ⟨d, 0, none⟩)] w fun e w' => e = .returned (.tuple #[]) ∧ BldAt B b (l ++ encI [x7]) w' ∧ Below B w w' ∧ TKeep w w' := by
  have c0 : w.cell? ⟨d, 0, none⟩ = some (.pointer (some ⟨m, 0, none⟩)) := hD.cell rfl
  have hP : PtrsAt B (w.alloc (.cells #[.pointer (some ⟨m, 7, none⟩)] 123)) w.heap.size [(m, 7)] [x7] := by
    refine ⟨BlkAt.new w 123 [.pointer (some ⟨m, 7, none⟩)], rfl, fun i A x g1 g2 => ?_⟩
    match i, g1, g2 with
    | 0, g1, g2 => simp at g1 g2; obtain rfl := g1; obtain rfl := g2; exact .inl ⟨_, _, _, hM.alloc (.cells #[.pointer (some ⟨m, 7, none⟩)] 123), by decide, by decide, by simpa using h7⟩
  have hx : ∀ x ∈ [x7], W64 x := by
    intro x hx
    simp only [List.mem_cons, List.not_mem_nil, or_false] at hx
    subst hx
    all_goals assumption
  have bb0 : Below w.heap.size w (w.alloc (.cells #[.pointer (some ⟨m, 7, none⟩)] 123)) := (Below.refl _ _).alloc (Nat.le_refl _) _
  have bb : Below w.heap.size w (w.alloc (.cells #[.pointer (some ⟨m, 7, none⟩)] 123)) := ⟨bb0.os, bb0.tape, bb0.output, bb0.size, bb0.block⟩
  have k0 : TKeep w (w.alloc (.cells #[.pointer (some ⟨m, 7, none⟩)] 123)) := TKeep.below bb
  have b0 : Below B w (w.alloc (.cells #[.pointer (some ⟨m, 7, none⟩)] 123)) := bb.mono hBw
  go_enter Tryz.func86, Tryz.ntmps86
  go_wp2_with fail
  refine (ints_write (As := [(m, 7)]) (xs := [x7]) (by exact hD.alloc (.cells #[.pointer (some ⟨m, 7, none⟩)] 123)) (by exact hP) hx (by exact BldAt.below hB bb) (by exact Nat.le_trans hBw bb.size) hl (by simp)).mono ?_
  rintro en wz ⟨rfl, hB2, b2, k2⟩
  have HB := Lib.hid hB2
  have HK := Lib.hid (k0.trans k2)
  have HW := Lib.hid (b0.trans b2)
  clear hB2 k2 b2 hP hx c0 k0 b0
  go_wp2_with fail
  go_end0
  exact ⟨rfl, HB.out, HW.out, HK.out⟩
set_option maxRecDepth 100000 in
set_option maxHeartbeats 1000000 in
theorem dclient_r {w : World} {r d m : Nat} {l : List UInt8} {e : Int} {cs : List Value} {x7 : Int} (hD : BlkAt w d 118 [.pointer (some ⟨m, 0, none⟩), .pointer none, .pointer (some ⟨r, 0, none⟩)]) (hM : BlkAt w m 40 cs) (h7 : cs[7]? = some (.int .i64 x7))
    (hR : RdAt w r l e) (hl : l.length ≤ 1000000) {l2 : List UInt8} {e2 : Int} {v0 : Int} (hr : rdIs 1 l e = ([v0], l2, e2)) :
    Calls Tryz.prog 86 #[.pointer (some ⟨d, 0, none⟩)] w fun en w' => en = .returned (.tuple #[]) ∧ RdAt w' r l2 e2 ∧ BlkAt w' m 40 (cs.set 7 (.int .i64 v0)) ∧ RKeep w w' r m := by
  have c0 : w.cell? ⟨d, 0, none⟩ = some (.pointer (some ⟨m, 0, none⟩)) := hD.cell rfl
  have HRR := Lib.hid hr
  clear hr
  have hmr := msg_rd hM hR
  have hdm := desk_msg hD hM
  have hP : SlotsAt (w.alloc (.cells #[.pointer (some ⟨m, 7, none⟩)] 123)) w.heap.size [(m, 7)] := by
    refine ⟨BlkAt.new w 123 [.pointer (some ⟨m, 7, none⟩)], fun i A g1 => ?_⟩
    match i, g1 with
    | 0, g1 => simp at g1; obtain rfl := g1; exact ⟨_, _, hM.alloc (.cells #[.pointer (some ⟨m, 7, none⟩)] 123), by decide, by decide, by decide, _, by simpa using h7⟩
  have bb0 : Below w.heap.size w (w.alloc (.cells #[.pointer (some ⟨m, 7, none⟩)] 123)) := (Below.refl _ _).alloc (Nat.le_refl _) _
  have bb : Below w.heap.size w (w.alloc (.cells #[.pointer (some ⟨m, 7, none⟩)] 123)) := ⟨bb0.os, bb0.tape, bb0.output, bb0.size, bb0.block⟩
  go_enter Tryz.func86, Tryz.ntmps86
  go_wp2_with fail
  refine (ints_rd (As := [(m, 7)]) HRR rfl (by exact hD.alloc (.cells #[.pointer (some ⟨m, 7, none⟩)] 123)) (by exact hP) (by exact RdAt.below hR bb) hl (by decide)).mono ?_
  rintro en wz ⟨rfl, hR2, hT⟩
  have HR := Lib.hid hR2
  have HT := Lib.hid hT
  clear hR2 hT hP c0
  go_wp2_with fail
  go_end0
  have hT1 : ReadTo (w.alloc (.cells #[.pointer (some ⟨m, 7, none⟩)] 123)) wz r (List.zip [(m, 7)] [v0]) := HT.out
  have hT3 : ReadTo (w.alloc (.cells #[.pointer (some ⟨m, 7, none⟩)] 123)) wz r (List.zip [(m, 7)] [v0]) := ⟨hT1.os, hT1.tape, hT1.output, hT1.size, hT1.cells, hT1.other⟩
  have h2 := hT3.cells m _ _ _ hmr (hM.alloc (.cells #[.pointer (some ⟨m, 7, none⟩)] 123))
  exact ⟨rfl, HR.out, by simpa [updB, BlkAt] using h2, read_keep hT3 (by simp)⟩
set_option maxRecDepth 100000 in
set_option maxHeartbeats 1000000 in
theorem did_w {w : World} {B b d m : Nat} {l : List UInt8} {rv : Value} {cs : List Value} {x8 : Int} (hD : BlkAt w d 118 [.pointer (some ⟨m, 0, none⟩), .pointer (some ⟨b, 0, none⟩), rv]) (hM : BlkAt w m 40 cs) (h8 : cs[8]? = some (.int .i64 x8)) (w8 : W64 x8)
    (hB : BldAt B b l w) (hBw : B ≤ w.heap.size) (hl : l.length ≤ 10000000) :
    Calls Tryz.prog 85 #[.pointer (some ⟨d, 0, none⟩)] w fun e w' => e = .returned (.tuple #[]) ∧ BldAt B b (l ++ encI [x8]) w' ∧ Below B w w' ∧ TKeep w w' := by
  have c0 : w.cell? ⟨d, 0, none⟩ = some (.pointer (some ⟨m, 0, none⟩)) := hD.cell rfl
  have hP : PtrsAt B (w.alloc (.cells #[.pointer (some ⟨m, 8, none⟩)] 123)) w.heap.size [(m, 8)] [x8] := by
    refine ⟨BlkAt.new w 123 [.pointer (some ⟨m, 8, none⟩)], rfl, fun i A x g1 g2 => ?_⟩
    match i, g1, g2 with
    | 0, g1, g2 => simp at g1 g2; obtain rfl := g1; obtain rfl := g2; exact .inl ⟨_, _, _, hM.alloc (.cells #[.pointer (some ⟨m, 8, none⟩)] 123), by decide, by decide, by simpa using h8⟩
  have hx : ∀ x ∈ [x8], W64 x := by
    intro x hx
    simp only [List.mem_cons, List.not_mem_nil, or_false] at hx
    subst hx
    all_goals assumption
  have bb0 : Below w.heap.size w (w.alloc (.cells #[.pointer (some ⟨m, 8, none⟩)] 123)) := (Below.refl _ _).alloc (Nat.le_refl _) _
  have bb : Below w.heap.size w (w.alloc (.cells #[.pointer (some ⟨m, 8, none⟩)] 123)) := ⟨bb0.os, bb0.tape, bb0.output, bb0.size, bb0.block⟩
  have k0 : TKeep w (w.alloc (.cells #[.pointer (some ⟨m, 8, none⟩)] 123)) := TKeep.below bb
  have b0 : Below B w (w.alloc (.cells #[.pointer (some ⟨m, 8, none⟩)] 123)) := bb.mono hBw
  go_enter Tryz.func85, Tryz.ntmps85
  go_wp2_with fail
  refine (ints_write (As := [(m, 8)]) (xs := [x8]) (by exact hD.alloc (.cells #[.pointer (some ⟨m, 8, none⟩)] 123)) (by exact hP) hx (by exact BldAt.below hB bb) (by exact Nat.le_trans hBw bb.size) hl (by simp)).mono ?_
  rintro en wz ⟨rfl, hB2, b2, k2⟩
  have HB := Lib.hid hB2
  have HK := Lib.hid (k0.trans k2)
  have HW := Lib.hid (b0.trans b2)
  clear hB2 k2 b2 hP hx c0 k0 b0
  go_wp2_with fail
  go_end0
  exact ⟨rfl, HB.out, HW.out, HK.out⟩
set_option maxRecDepth 100000 in
set_option maxHeartbeats 1000000 in
theorem did_r {w : World} {r d m : Nat} {l : List UInt8} {e : Int} {cs : List Value} {x8 : Int} (hD : BlkAt w d 118 [.pointer (some ⟨m, 0, none⟩), .pointer none, .pointer (some ⟨r, 0, none⟩)]) (hM : BlkAt w m 40 cs) (h8 : cs[8]? = some (.int .i64 x8))
    (hR : RdAt w r l e) (hl : l.length ≤ 1000000) {l2 : List UInt8} {e2 : Int} {v0 : Int} (hr : rdIs 1 l e = ([v0], l2, e2)) :
    Calls Tryz.prog 85 #[.pointer (some ⟨d, 0, none⟩)] w fun en w' => en = .returned (.tuple #[]) ∧ RdAt w' r l2 e2 ∧ BlkAt w' m 40 (cs.set 8 (.int .i64 v0)) ∧ RKeep w w' r m := by
  have c0 : w.cell? ⟨d, 0, none⟩ = some (.pointer (some ⟨m, 0, none⟩)) := hD.cell rfl
  have HRR := Lib.hid hr
  clear hr
  have hmr := msg_rd hM hR
  have hdm := desk_msg hD hM
  have hP : SlotsAt (w.alloc (.cells #[.pointer (some ⟨m, 8, none⟩)] 123)) w.heap.size [(m, 8)] := by
    refine ⟨BlkAt.new w 123 [.pointer (some ⟨m, 8, none⟩)], fun i A g1 => ?_⟩
    match i, g1 with
    | 0, g1 => simp at g1; obtain rfl := g1; exact ⟨_, _, hM.alloc (.cells #[.pointer (some ⟨m, 8, none⟩)] 123), by decide, by decide, by decide, _, by simpa using h8⟩
  have bb0 : Below w.heap.size w (w.alloc (.cells #[.pointer (some ⟨m, 8, none⟩)] 123)) := (Below.refl _ _).alloc (Nat.le_refl _) _
  have bb : Below w.heap.size w (w.alloc (.cells #[.pointer (some ⟨m, 8, none⟩)] 123)) := ⟨bb0.os, bb0.tape, bb0.output, bb0.size, bb0.block⟩
  go_enter Tryz.func85, Tryz.ntmps85
  go_wp2_with fail
  refine (ints_rd (As := [(m, 8)]) HRR rfl (by exact hD.alloc (.cells #[.pointer (some ⟨m, 8, none⟩)] 123)) (by exact hP) (by exact RdAt.below hR bb) hl (by decide)).mono ?_
  rintro en wz ⟨rfl, hR2, hT⟩
  have HR := Lib.hid hR2
  have HT := Lib.hid hT
  clear hR2 hT hP c0
  go_wp2_with fail
  go_end0
  have hT1 : ReadTo (w.alloc (.cells #[.pointer (some ⟨m, 8, none⟩)] 123)) wz r (List.zip [(m, 8)] [v0]) := HT.out
  have hT3 : ReadTo (w.alloc (.cells #[.pointer (some ⟨m, 8, none⟩)] 123)) wz r (List.zip [(m, 8)] [v0]) := ⟨hT1.os, hT1.tape, hT1.output, hT1.size, hT1.cells, hT1.other⟩
  have h2 := hT3.cells m _ _ _ hmr (hM.alloc (.cells #[.pointer (some ⟨m, 8, none⟩)] 123))
  exact ⟨rfl, HR.out, by simpa [updB, BlkAt] using h2, read_keep hT3 (by simp)⟩
set_option maxRecDepth 100000 in
set_option maxHeartbeats 1000000 in
theorem duntil_w {w : World} {B b d m : Nat} {l : List UInt8} {rv : Value} {cs : List Value} {x9 : Int} (hD : BlkAt w d 118 [.pointer (some ⟨m, 0, none⟩), .pointer (some ⟨b, 0, none⟩), rv]) (hM : BlkAt w m 40 cs) (h9 : cs[9]? = some (.int .i64 x9)) (w9 : W64 x9)
    (hB : BldAt B b l w) (hBw : B ≤ w.heap.size) (hl : l.length ≤ 10000000) :
    Calls Tryz.prog 80 #[.pointer (some ⟨d, 0, none⟩)] w fun e w' => e = .returned (.tuple #[]) ∧ BldAt B b (l ++ encI [x9]) w' ∧ Below B w w' ∧ TKeep w w' := by
  have c0 : w.cell? ⟨d, 0, none⟩ = some (.pointer (some ⟨m, 0, none⟩)) := hD.cell rfl
  have hP : PtrsAt B (w.alloc (.cells #[.pointer (some ⟨m, 9, none⟩)] 123)) w.heap.size [(m, 9)] [x9] := by
    refine ⟨BlkAt.new w 123 [.pointer (some ⟨m, 9, none⟩)], rfl, fun i A x g1 g2 => ?_⟩
    match i, g1, g2 with
    | 0, g1, g2 => simp at g1 g2; obtain rfl := g1; obtain rfl := g2; exact .inl ⟨_, _, _, hM.alloc (.cells #[.pointer (some ⟨m, 9, none⟩)] 123), by decide, by decide, by simpa using h9⟩
  have hx : ∀ x ∈ [x9], W64 x := by
    intro x hx
    simp only [List.mem_cons, List.not_mem_nil, or_false] at hx
    subst hx
    all_goals assumption
  have bb0 : Below w.heap.size w (w.alloc (.cells #[.pointer (some ⟨m, 9, none⟩)] 123)) := (Below.refl _ _).alloc (Nat.le_refl _) _
  have bb : Below w.heap.size w (w.alloc (.cells #[.pointer (some ⟨m, 9, none⟩)] 123)) := ⟨bb0.os, bb0.tape, bb0.output, bb0.size, bb0.block⟩
  have k0 : TKeep w (w.alloc (.cells #[.pointer (some ⟨m, 9, none⟩)] 123)) := TKeep.below bb
  have b0 : Below B w (w.alloc (.cells #[.pointer (some ⟨m, 9, none⟩)] 123)) := bb.mono hBw
  go_enter Tryz.func80, Tryz.ntmps80
  go_wp2_with fail
  refine (ints_write (As := [(m, 9)]) (xs := [x9]) (by exact hD.alloc (.cells #[.pointer (some ⟨m, 9, none⟩)] 123)) (by exact hP) hx (by exact BldAt.below hB bb) (by exact Nat.le_trans hBw bb.size) hl (by simp)).mono ?_
  rintro en wz ⟨rfl, hB2, b2, k2⟩
  have HB := Lib.hid hB2
  have HK := Lib.hid (k0.trans k2)
  have HW := Lib.hid (b0.trans b2)
  clear hB2 k2 b2 hP hx c0 k0 b0
  go_wp2_with fail
  go_end0
  exact ⟨rfl, HB.out, HW.out, HK.out⟩
set_option maxRecDepth 100000 in
set_option maxHeartbeats 1000000 in
theorem duntil_r {w : World} {r d m : Nat} {l : List UInt8} {e : Int} {cs : List Value} {x9 : Int} (hD : BlkAt w d 118 [.pointer (some ⟨m, 0, none⟩), .pointer none, .pointer (some ⟨r, 0, none⟩)]) (hM : BlkAt w m 40 cs) (h9 : cs[9]? = some (.int .i64 x9))
    (hR : RdAt w r l e) (hl : l.length ≤ 1000000) {l2 : List UInt8} {e2 : Int} {v0 : Int} (hr : rdIs 1 l e = ([v0], l2, e2)) :
    Calls Tryz.prog 80 #[.pointer (some ⟨d, 0, none⟩)] w fun en w' => en = .returned (.tuple #[]) ∧ RdAt w' r l2 e2 ∧ BlkAt w' m 40 (cs.set 9 (.int .i64 v0)) ∧ RKeep w w' r m := by
  have c0 : w.cell? ⟨d, 0, none⟩ = some (.pointer (some ⟨m, 0, none⟩)) := hD.cell rfl
  have HRR := Lib.hid hr
  clear hr
  have hmr := msg_rd hM hR
  have hdm := desk_msg hD hM
  have hP : SlotsAt (w.alloc (.cells #[.pointer (some ⟨m, 9, none⟩)] 123)) w.heap.size [(m, 9)] := by
    refine ⟨BlkAt.new w 123 [.pointer (some ⟨m, 9, none⟩)], fun i A g1 => ?_⟩
    match i, g1 with
    | 0, g1 => simp at g1; obtain rfl := g1; exact ⟨_, _, hM.alloc (.cells #[.pointer (some ⟨m, 9, none⟩)] 123), by decide, by decide, by decide, _, by simpa using h9⟩
  have bb0 : Below w.heap.size w (w.alloc (.cells #[.pointer (some ⟨m, 9, none⟩)] 123)) := (Below.refl _ _).alloc (Nat.le_refl _) _
  have bb : Below w.heap.size w (w.alloc (.cells #[.pointer (some ⟨m, 9, none⟩)] 123)) := ⟨bb0.os, bb0.tape, bb0.output, bb0.size, bb0.block⟩
  go_enter Tryz.func80, Tryz.ntmps80
  go_wp2_with fail
  refine (ints_rd (As := [(m, 9)]) HRR rfl (by exact hD.alloc (.cells #[.pointer (some ⟨m, 9, none⟩)] 123)) (by exact hP) (by exact RdAt.below hR bb) hl (by decide)).mono ?_
  rintro en wz ⟨rfl, hR2, hT⟩
  have HR := Lib.hid hR2
  have HT := Lib.hid hT
  clear hR2 hT hP c0
  go_wp2_with fail
  go_end0
  have hT1 : ReadTo (w.alloc (.cells #[.pointer (some ⟨m, 9, none⟩)] 123)) wz r (List.zip [(m, 9)] [v0]) := HT.out
  have hT3 : ReadTo (w.alloc (.cells #[.pointer (some ⟨m, 9, none⟩)] 123)) wz r (List.zip [(m, 9)] [v0]) := ⟨hT1.os, hT1.tape, hT1.output, hT1.size, hT1.cells, hT1.other⟩
  have h2 := hT3.cells m _ _ _ hmr (hM.alloc (.cells #[.pointer (some ⟨m, 9, none⟩)] 123))
  exact ⟨rfl, HR.out, by simpa [updB, BlkAt] using h2, read_keep hT3 (by simp)⟩
set_option maxRecDepth 100000 in
set_option maxHeartbeats 1000000 in
theorem dlife_w {w : World} {B b d m : Nat} {l : List UInt8} {rv : Value} {cs : List Value} {x27 : Int} (hD : BlkAt w d 118 [.pointer (some ⟨m, 0, none⟩), .pointer (some ⟨b, 0, none⟩), rv]) (hM : BlkAt w m 40 cs) (h27 : cs[27]? = some (.int .i64 x27)) (w27 : W64 x27)
    (hB : BldAt B b l w) (hBw : B ≤ w.heap.size) (hl : l.length ≤ 10000000) :
    Calls Tryz.prog 81 #[.pointer (some ⟨d, 0, none⟩)] w fun e w' => e = .returned (.tuple #[]) ∧ BldAt B b (l ++ encI [x27]) w' ∧ Below B w w' ∧ TKeep w w' := by
  have c0 : w.cell? ⟨d, 0, none⟩ = some (.pointer (some ⟨m, 0, none⟩)) := hD.cell rfl
  have hP : PtrsAt B (w.alloc (.cells #[.pointer (some ⟨m, 27, none⟩)] 123)) w.heap.size [(m, 27)] [x27] := by
    refine ⟨BlkAt.new w 123 [.pointer (some ⟨m, 27, none⟩)], rfl, fun i A x g1 g2 => ?_⟩
    match i, g1, g2 with
    | 0, g1, g2 => simp at g1 g2; obtain rfl := g1; obtain rfl := g2; exact .inl ⟨_, _, _, hM.alloc (.cells #[.pointer (some ⟨m, 27, none⟩)] 123), by decide, by decide, by simpa using h27⟩
  have hx : ∀ x ∈ [x27], W64 x := by
    intro x hx
    simp only [List.mem_cons, List.not_mem_nil, or_false] at hx
    subst hx
    all_goals assumption
  have bb0 : Below w.heap.size w (w.alloc (.cells #[.pointer (some ⟨m, 27, none⟩)] 123)) := (Below.refl _ _).alloc (Nat.le_refl _) _
  have bb : Below w.heap.size w (w.alloc (.cells #[.pointer (some ⟨m, 27, none⟩)] 123)) := ⟨bb0.os, bb0.tape, bb0.output, bb0.size, bb0.block⟩
  have k0 : TKeep w (w.alloc (.cells #[.pointer (some ⟨m, 27, none⟩)] 123)) := TKeep.below bb
  have b0 : Below B w (w.alloc (.cells #[.pointer (some ⟨m, 27, none⟩)] 123)) := bb.mono hBw
  go_enter Tryz.func81, Tryz.ntmps81
  go_wp2_with fail
  refine (ints_write (As := [(m, 27)]) (xs := [x27]) (by exact hD.alloc (.cells #[.pointer (some ⟨m, 27, none⟩)] 123)) (by exact hP) hx (by exact BldAt.below hB bb) (by exact Nat.le_trans hBw bb.size) hl (by simp)).mono ?_
  rintro en wz ⟨rfl, hB2, b2, k2⟩
  have HB := Lib.hid hB2
  have HK := Lib.hid (k0.trans k2)
  have HW := Lib.hid (b0.trans b2)
  clear hB2 k2 b2 hP hx c0 k0 b0
  go_wp2_with fail
  go_end0
  exact ⟨rfl, HB.out, HW.out, HK.out⟩
set_option maxRecDepth 100000 in
set_option maxHeartbeats 1000000 in
theorem dlife_r {w : World} {r d m : Nat} {l : List UInt8} {e : Int} {cs : List Value} {x27 : Int} (hD : BlkAt w d 118 [.pointer (some ⟨m, 0, none⟩), .pointer none, .pointer (some ⟨r, 0, none⟩)]) (hM : BlkAt w m 40 cs) (h27 : cs[27]? = some (.int .i64 x27))
    (hR : RdAt w r l e) (hl : l.length ≤ 1000000) {l2 : List UInt8} {e2 : Int} {v0 : Int} (hr : rdIs 1 l e = ([v0], l2, e2)) :
    Calls Tryz.prog 81 #[.pointer (some ⟨d, 0, none⟩)] w fun en w' => en = .returned (.tuple #[]) ∧ RdAt w' r l2 e2 ∧ BlkAt w' m 40 (cs.set 27 (.int .i64 v0)) ∧ RKeep w w' r m := by
  have c0 : w.cell? ⟨d, 0, none⟩ = some (.pointer (some ⟨m, 0, none⟩)) := hD.cell rfl
  have HRR := Lib.hid hr
  clear hr
  have hmr := msg_rd hM hR
  have hdm := desk_msg hD hM
  have hP : SlotsAt (w.alloc (.cells #[.pointer (some ⟨m, 27, none⟩)] 123)) w.heap.size [(m, 27)] := by
    refine ⟨BlkAt.new w 123 [.pointer (some ⟨m, 27, none⟩)], fun i A g1 => ?_⟩
    match i, g1 with
    | 0, g1 => simp at g1; obtain rfl := g1; exact ⟨_, _, hM.alloc (.cells #[.pointer (some ⟨m, 27, none⟩)] 123), by decide, by decide, by decide, _, by simpa using h27⟩
  have bb0 : Below w.heap.size w (w.alloc (.cells #[.pointer (some ⟨m, 27, none⟩)] 123)) := (Below.refl _ _).alloc (Nat.le_refl _) _
  have bb : Below w.heap.size w (w.alloc (.cells #[.pointer (some ⟨m, 27, none⟩)] 123)) := ⟨bb0.os, bb0.tape, bb0.output, bb0.size, bb0.block⟩
  go_enter Tryz.func81, Tryz.ntmps81
  go_wp2_with fail
  refine (ints_rd (As := [(m, 27)]) HRR rfl (by exact hD.alloc (.cells #[.pointer (some ⟨m, 27, none⟩)] 123)) (by exact hP) (by exact RdAt.below hR bb) hl (by decide)).mono ?_
  rintro en wz ⟨rfl, hR2, hT⟩
  have HR := Lib.hid hR2
  have HT := Lib.hid hT
  clear hR2 hT hP c0
  go_wp2_with fail
  go_end0
  have hT1 : ReadTo (w.alloc (.cells #[.pointer (some ⟨m, 27, none⟩)] 123)) wz r (List.zip [(m, 27)] [v0]) := HT.out
  have hT3 : ReadTo (w.alloc (.cells #[.pointer (some ⟨m, 27, none⟩)] 123)) wz r (List.zip [(m, 27)] [v0]) := ⟨hT1.os, hT1.tape, hT1.output, hT1.size, hT1.cells, hT1.other⟩
  have h2 := hT3.cells m _ _ _ hmr (hM.alloc (.cells #[.pointer (some ⟨m, 27, none⟩)] 123))
  exact ⟨rfl, HR.out, by simpa [updB, BlkAt] using h2, read_keep hT3 (by simp)⟩
set_option maxRecDepth 100000 in
set_option maxHeartbeats 1000000 in
theorem dfrom_w {w : World} {B b d m : Nat} {l : List UInt8} {rv : Value} {cs : List Value} {x2 x3 : Int} (hD : BlkAt w d 118 [.pointer (some ⟨m, 0, none⟩), .pointer (some ⟨b, 0, none⟩), rv]) (hM : BlkAt w m 40 cs) (h2 : cs[2]? = some (.int .i64 x2)) (h3 : cs[3]? = some (.int .i64 x3)) (w2 : W64 x2) (w3 : W64 x3)
    (hB : BldAt B b l w) (hBw : B ≤ w.heap.size) (hl : l.length ≤ 10000000) :
    Calls Tryz.prog 75 #[.pointer (some ⟨d, 0, none⟩)] w fun e w' => e = .returned (.tuple #[]) ∧ BldAt B b (l ++ encI [x2, x3]) w' ∧ Below B w w' ∧ TKeep w w' := by
  have c0 : w.cell? ⟨d, 0, none⟩ = some (.pointer (some ⟨m, 0, none⟩)) := hD.cell rfl
  have hP : PtrsAt B (w.alloc (.cells #[.pointer (some ⟨m, 2, none⟩), .pointer (some ⟨m, 3, none⟩)] 123)) w.heap.size [(m, 2), (m, 3)] [x2, x3] := by
    refine ⟨BlkAt.new w 123 [.pointer (some ⟨m, 2, none⟩), .pointer (some ⟨m, 3, none⟩)], rfl, fun i A x g1 g2 => ?_⟩
    match i, g1, g2 with
    | 0, g1, g2 => simp at g1 g2; obtain rfl := g1; obtain rfl := g2; exact .inl ⟨_, _, _, hM.alloc (.cells #[.pointer (some ⟨m, 2, none⟩), .pointer (some ⟨m, 3, none⟩)] 123), by decide, by decide, by simpa using h2⟩
    | 1, g1, g2 => simp at g1 g2; obtain rfl := g1; obtain rfl := g2; exact .inl ⟨_, _, _, hM.alloc (.cells #[.pointer (some ⟨m, 2, none⟩), .pointer (some ⟨m, 3, none⟩)] 123), by decide, by decide, by simpa using h3⟩
  have hx : ∀ x ∈ [x2, x3], W64 x := by
    intro x hx
    simp only [List.mem_cons, List.not_mem_nil, or_false] at hx
    rcases hx with rfl | rfl
    all_goals assumption
  have bb0 : Below w.heap.size w (w.alloc (.cells #[.pointer (some ⟨m, 2, none⟩), .pointer (some ⟨m, 3, none⟩)] 123)) := (Below.refl _ _).alloc (Nat.le_refl _) _
  have bb : Below w.heap.size w (w.alloc (.cells #[.pointer (some ⟨m, 2, none⟩), .pointer (some ⟨m, 3, none⟩)] 123)).drew := ⟨bb0.os, bb0.tape, bb0.output, bb0.size, bb0.block⟩
  have hP : PtrsAt B (w.alloc (.cells #[.pointer (some ⟨m, 2, none⟩), .pointer (some ⟨m, 3, none⟩)] 123)).drew w.heap.size [(m, 2), (m, 3)] [x2, x3] := ⟨hP.row, hP.len, hP.ints⟩
  have k0 : TKeep w (w.alloc (.cells #[.pointer (some ⟨m, 2, none⟩), .pointer (some ⟨m, 3, none⟩)] 123)).drew := TKeep.below bb
  have b0 : Below B w (w.alloc (.cells #[.pointer (some ⟨m, 2, none⟩), .pointer (some ⟨m, 3, none⟩)] 123)).drew := bb.mono hBw
  go_enter Tryz.func75, Tryz.ntmps75
  go_upto_region 0 with (fail)
  go_region_held3 (fun w' => w'.cell? ⟨d, 0, none⟩ = some (.pointer (some ⟨m, 0, none⟩)))
    (first | exact c0 | go_keep)
    ((go_at_call 56; refine (ints_write (As := [(m, 2), (m, 3)]) (xs := [x2, x3]) (by exact hD.alloc (.cells #[.pointer (some ⟨m, 2, none⟩), .pointer (some ⟨m, 3, none⟩)] 123)) (by exact hP) hx (by exact BldAt.below hB bb) (by exact Nat.le_trans hBw bb.size) hl (by simp)).mono ?_; rintro en wz ⟨rfl, hB2, b2, k2⟩; have c0 : wz.cell? ⟨d, 0, none⟩ = some (.pointer (some ⟨m, 0, none⟩)) := (hD.tkeep (k0.trans k2) (by decide) (by decide)).cell rfl))
  have HB := Lib.hid hB2
  have HK := Lib.hid (k0.trans k2)
  have HW := Lib.hid (b0.trans b2)
  clear hB2 k2 b2 hP hx c0 k0 b0
  go_wp2_with fail
  go_end0
  exact ⟨rfl, HB.out, HW.out, HK.out⟩
set_option maxRecDepth 100000 in
set_option maxHeartbeats 1000000 in
theorem dfrom_r {w : World} {r d m : Nat} {l : List UInt8} {e : Int} {cs : List Value} {x2 x3 : Int} (hD : BlkAt w d 118 [.pointer (some ⟨m, 0, none⟩), .pointer none, .pointer (some ⟨r, 0, none⟩)]) (hM : BlkAt w m 40 cs) (h2 : cs[2]? = some (.int .i64 x2)) (h3 : cs[3]? = some (.int .i64 x3))
    (hR : RdAt w r l e) (hl : l.length ≤ 1000000) {l2 : List UInt8} {e2 : Int} {v0 v1 : Int} (hr : rdIs 2 l e = ([v0, v1], l2, e2)) :
    Calls Tryz.prog 75 #[.pointer (some ⟨d, 0, none⟩)] w fun en w' => en = .returned (.tuple #[]) ∧ RdAt w' r l2 e2 ∧ BlkAt w' m 40 ((cs.set 2 (.int .i64 v0)).set 3 (.int .i64 v1)) ∧ RKeep w w' r m := by
  have c0 : w.cell? ⟨d, 0, none⟩ = some (.pointer (some ⟨m, 0, none⟩)) := hD.cell rfl
  have HRR := Lib.hid hr
  clear hr
  have hmr := msg_rd hM hR
  have hdm := desk_msg hD hM
  have hP : SlotsAt (w.alloc (.cells #[.pointer (some ⟨m, 2, none⟩), .pointer (some ⟨m, 3, none⟩)] 123)) w.heap.size [(m, 2), (m, 3)] := by
    refine ⟨BlkAt.new w 123 [.pointer (some ⟨m, 2, none⟩), .pointer (some ⟨m, 3, none⟩)], fun i A g1 => ?_⟩
    match i, g1 with
    | 0, g1 => simp at g1; obtain rfl := g1; exact ⟨_, _, hM.alloc (.cells #[.pointer (some ⟨m, 2, none⟩), .pointer (some ⟨m, 3, none⟩)] 123), by decide, by decide, by decide, _, by simpa using h2⟩
    | 1, g1 => simp at g1; obtain rfl := g1; exact ⟨_, _, hM.alloc (.cells #[.pointer (some ⟨m, 2, none⟩), .pointer (some ⟨m, 3, none⟩)] 123), by decide, by decide, by decide, _, by simpa using h3⟩
  have bb0 : Below w.heap.size w (w.alloc (.cells #[.pointer (some ⟨m, 2, none⟩), .pointer (some ⟨m, 3, none⟩)] 123)) := (Below.refl _ _).alloc (Nat.le_refl _) _
  have bb : Below w.heap.size w (w.alloc (.cells #[.pointer (some ⟨m, 2, none⟩), .pointer (some ⟨m, 3, none⟩)] 123)).drew := ⟨bb0.os, bb0.tape, bb0.output, bb0.size, bb0.block⟩
  have hP : SlotsAt (w.alloc (.cells #[.pointer (some ⟨m, 2, none⟩), .pointer (some ⟨m, 3, none⟩)] 123)).drew w.heap.size [(m, 2), (m, 3)] := ⟨hP.row, hP.slots⟩
  go_enter Tryz.func75, Tryz.ntmps75
  go_upto_region 0 with (fail)
  go_region_held3 (fun w' => w'.cell? ⟨d, 0, none⟩ = some (.pointer (some ⟨m, 0, none⟩)))
    (first | exact c0 | go_keep)
    ((go_at_call 56; refine (ints_rd (As := [(m, 2), (m, 3)]) HRR rfl (by exact hD.alloc (.cells #[.pointer (some ⟨m, 2, none⟩), .pointer (some ⟨m, 3, none⟩)] 123)) (by exact hP) (by exact RdAt.below hR bb) hl (by decide)).mono ?_; rintro en wz ⟨rfl, hR2, hT⟩; have c0 : wz.cell? ⟨d, 0, none⟩ = some (.pointer (some ⟨m, 0, none⟩)) := (readTo_desk hT (hD.alloc (.cells #[.pointer (some ⟨m, 2, none⟩), .pointer (some ⟨m, 3, none⟩)] 123)) (by exact hdm) (by exact desk_rd hD hR) (by simp)).cell rfl))
  have HR := Lib.hid hR2
  have HT := Lib.hid hT
  clear hR2 hT hP c0
  go_wp2_with fail
  go_end0
  have hT1 : ReadTo (w.alloc (.cells #[.pointer (some ⟨m, 2, none⟩), .pointer (some ⟨m, 3, none⟩)] 123)).drew wz r (List.zip [(m, 2), (m, 3)] [v0, v1]) := HT.out
  have hT3 : ReadTo (w.alloc (.cells #[.pointer (some ⟨m, 2, none⟩), .pointer (some ⟨m, 3, none⟩)] 123)) wz r (List.zip [(m, 2), (m, 3)] [v0, v1]) := ⟨hT1.os, hT1.tape, hT1.output, hT1.size, hT1.cells, hT1.other⟩
  have h2 := hT3.cells m _ _ _ hmr (hM.alloc (.cells #[.pointer (some ⟨m, 2, none⟩), .pointer (some ⟨m, 3, none⟩)] 123))
  exact ⟨rfl, HR.out, by simpa [updB, BlkAt] using h2, read_keep hT3 (by simp)⟩
end Go.Proofs.YtnaabaahfjklhaaGreat
