/- The master: the first one is made. The master: one is made behind a crash. -/
import Derived.Test.YtomfmejodmfioaaGreatMstBegin
import Derived.Test.YtomfmejodmfioaaGreatMstMay
import Derived.Test.YtomfmejodmfioaaGreatMstInv
namespace Go.Proofs.YtomfmejodmfioaaGreat
open Go.RowKit Go.Maps Go.ChangeShapes Go.WideShapes Go.Joins Go.Deep
set_option linter.unusedVariables false

theorem ChainS.fkAt {w w' : World} {v : Value} {L : List SeatV} (h : ChainS w v L) (hk : ∀ k, IsCells w k 49 → w'.heap[k]? = w.heap[k]?) (hs : w.heap.size ≤ w'.heap.size) : ChainS w' v L := by
  obtain ⟨h0, hr⟩ := h
  refine ⟨?_, fun k hk' => ?_⟩
  · obtain ⟨a, cap, rfl, hs'⟩ := h0
    refine ⟨a, cap, rfl, hs'.1, hs'.2.1, fun hp => ?_⟩
    obtain ⟨q, off, rfl, hab, hc⟩ := hs'.2.2 hp
    have e := hk q (hr q rfl)
    exact ⟨q, off, rfl, Nat.lt_of_lt_of_le hab hs, fun i s hi => (hc i s hi).of fun k => World.cell?_of_block e⟩
  · obtain ⟨cs, fr, hc⟩ := hr k hk'
    exact ⟨cs, fr, (hk k ⟨cs, fr, hc⟩).trans hc⟩
set_option maxRecDepth 100000 in
set_option maxHeartbeats 1000000 in

theorem mnew_nil (s : SetV) (w : World) : Calls Tryz.prog 22 #[.agg (setCells7 s).toArray, .pointer none] w fun e w' => e = .returned (.tuple #[.pointer none, .int .i64 12]) ∧ Below w.heap.size w w' := by
  have hb := (Below.refl w.heap.size w).alloc (Nat.le_refl _) (.cells (setCells7 s).toArray 23)
  go_enter Tryz.func22, Tryz.ntmps22
  go_upto_region 1 with (fail)
  change Code.wp _ _ _ _ (w.alloc (.cells (setCells7 s).toArray 23))
  generalize w.alloc (.cells (setCells7 s).toArray 23) = W at *
  go_wp2_with fail
  go_ret2
  exact ⟨rfl, hb⟩
set_option maxRecDepth 100000 in
set_option maxHeartbeats 1000000 in

theorem mnew_arg {s : SetV} (hs : mayS s = false) (lb : Nat) (w : World) : Calls Tryz.prog 22 #[.agg (setCells7 s).toArray, .pointer (some ⟨lb, 0, none⟩)] w fun e w' => e = .returned (.tuple #[.pointer none, .int .i64 1]) ∧ Below w.heap.size w w' := by
  have hsb0 := BlkAt.new w 23 (setCells7 s)
  have hb := (Below.refl w.heap.size w).alloc (Nat.le_refl _) (.cells (setCells7 s).toArray 23)
  go_enter Tryz.func22, Tryz.ntmps22
  go_upto_region 1 with (fail)
  change Code.wp _ _ _ _ (w.alloc (.cells (setCells7 s).toArray 23))
  change BlkAt (w.alloc (.cells (setCells7 s).toArray 23)) _ _ _ at hsb0
  generalize w.alloc (.cells (setCells7 s).toArray 23) = W at *
  obtain ⟨sb, hsbd⟩ : ∃ sb, sb = w.heap.size := ⟨_, rfl⟩
  rw [← hsbd] at hsb0 ⊢
  have hsn : w.heap.size ≤ sb := Nat.le_of_eq hsbd.symm
  clear hsbd
  go_wp2_with fail
  refine (mmay_any (s := s) (by exact hsb0)).mono ?_
  rintro en w2 ⟨rfl, rfl⟩
  rw [hs]
  go_wp2_with fail
  go_ret2
  exact ⟨rfl, hb⟩
/-- A master made over the log lb. -/
def MBegun (B : Nat) (w w' : World) (lb : Nat) (en : Ending) (N : Nat) (V : MstV) (l : List UInt8) : Prop :=
  ∃ x b, en = .returned (.tuple #[.pointer (some ⟨x, 0, none⟩), .int .i64 0]) ∧ b.lb = lb ∧ MAt B w' x b N V l ∧ FK [lb] B w w' ∧ FNew w [lb] (b.list x)
theorem mwriteS_all {l s : List UInt8} {keep : Int} (hs : s.length ≤ 1024) (hr : l.length + (bytesS s).length ≤ 65536) (hk : ((bytesS s).length : Int) ≤ keep) : writeS l false s keep = (l ++ bytesS s, 0) := by
  unfold writeS
  have : keepS s keep = (bytesS s).length := by unfold keepS; omega
  rw [if_neg (by omega), if_neg (by simp), if_neg (by omega), this, List.take_length]
theorem write_first {c : ConfV} (h : rightC c = true) : writeS [] false (encConf c) 1099511627776 = (bytesS (encConf c), 0) := by
  have h1 := encConf_len c
  have h2 := (right_len h).2
  have h3 := bytesS_len (encConf c)
  have h4 := (encS_len (encConf c)).2
  rw [mwriteS_all (by omega) (by simp; omega) (by omega)]
  rfl
set_option maxRecDepth 100000 in
set_option maxHeartbeats 4000000 in

theorem mnew_any {B : Nat} {w : World} {lb : Nat} {u : Value} (hlog : LogAt B w lb u [] false) {s : SetV} (hset : mayS s = true) :
    Calls Tryz.prog 22 #[.agg (setCells7 s).toArray, .pointer (some ⟨lb, 0, none⟩)] w fun e w' => MBegun B w w' lb e 100 (beginM s (firstC s.nodes).1 s.base) (bytesS (encConf (firstC s.nodes).1)) := by
  have hsu := hset
  unfold mayS at hsu
  rw [decide_eq_true_eq] at hsu
  obtain ⟨L, hL, hrt⟩ := first_right hsu.1 hsu.2.1
  have HL := Lib.hid hL
  have hnw : W64 s.nodes := W64.mk (by omega) (by omega)
  have htb : TOk s.base := ⟨by omega, by omega⟩
  have hwf := write_first hrt
  have HWF := Lib.hid hwf
  have hl8 := right_len hrt
  simp only at hl8
  clear hwf hsu
  have hsb0 := BlkAt.new w 23 (setCells7 s)
  have hb := (Below.refl w.heap.size w).alloc (Nat.le_refl _) (.cells (setCells7 s).toArray 23)
  go_enter Tryz.func22, Tryz.ntmps22
  go_upto_region 1 with (fail)
  change Code.wp _ _ _ _ (w.alloc (.cells (setCells7 s).toArray 23))
  change BlkAt (w.alloc (.cells (setCells7 s).toArray 23)) _ _ _ at hsb0
  generalize w.alloc (.cells (setCells7 s).toArray 23) = W at *
  obtain ⟨sb, hsbd⟩ : ∃ sb, sb = w.heap.size := ⟨_, rfl⟩
  rw [← hsbd] at hsb0 ⊢
  have hsn : w.heap.size ≤ sb := Nat.le_of_eq hsbd.symm
  clear hsbd
  have hlog1 := hlog.below hb
  have HF1 : Hid (FK [lb] B w W) := Lib.hid (FK.of_below hb)
  go_wp2_with fail
  refine (mmay_any (s := s) (by exact hsb0)).mono ?_
  rintro en w2 ⟨rfl, rfl⟩
  rw [hset]
  go_wp2_with fail
  refine (all_any (by exact hlog1) (by simp)).mono ?_
  rintro en w3 ⟨a, acap, rfl, hS3, b3⟩
  have hsz0 : (scanS []).1.length = 0 := by rw [scanS_no one_nil]; rfl
  rw [hsz0]
  have hlog3 := hlog1.below b3
  have hsb3 := hsb0.below b3
  have HF3 := Lib.hid (HF1.out.same (FK.of_below b3))
  clear hlog hlog1 hsb0 hS3 b3 hb
  have s0 : w3.cell? ⟨sb, 0, none⟩ = some (.int .i64 s.nodes) := hsb3.cell rfl
  go_wp2_with fail
  refine (cfirst_s s.nodes hnw _).mono ?_
  rintro en w4 ⟨v, rfl, hC, b4⟩
  rw [HL.out] at hC
  rw [HL.out]
  simp only at hC
  obtain ⟨A, cap, rfl⟩ := hC.form
  have hlog4 := hlog3.below b4
  have hsb4 := hsb3.below b4
  have HF4 := Lib.hid (HF3.out.same (FK.of_below b4))
  clear hlog3 hsb3 b4 s0
  have hb := Below.refl w4.heap.size w4
  go_upto_region 8 with (fail)
  have hZ := BlkAt.new w4 35 [.int .i64 1, .slice A L.length cap]
  have hCq := hC.below ((Below.refl _ _).alloc (Nat.le_refl _) (.cells #[.int .i64 1, .slice A L.length cap] 35))
  clear hC
  have hC := hCq
  clear hCq
  have hlog4q := hlog4.below ((Below.refl _ _).alloc (Nat.le_refl _) (.cells #[.int .i64 1, .slice A L.length cap] 35))
  clear hlog4
  have hlog4 := hlog4q
  clear hlog4q
  have hsb4q := hsb4.below ((Below.refl _ _).alloc (Nat.le_refl _) (.cells #[.int .i64 1, .slice A L.length cap] 35))
  clear hsb4
  have hsb4 := hsb4q
  clear hsb4q
  have hbq := hb.alloc hb.size (.cells #[.int .i64 1, .slice A L.length cap] 35)
  clear hb
  have hb := hbq
  clear hbq
  change Code.wp _ _ _ _ (w4.alloc (.cells #[.int .i64 1, .slice A L.length cap] 35))
  change BlkAt (w4.alloc (.cells #[.int .i64 1, .slice A L.length cap] 35)) _ _ _ at hZ
  have hZn := (show w4.heap.size ≤ w4.heap.size from Nat.le_refl _)
  generalize w4.alloc (.cells #[.int .i64 1, .slice A L.length cap] 35) = w5 at *
  generalize w4.heap.size = Z at hZ ⊢
  clear hZn
  have HF5 := Lib.hid (HF4.out.same (FK.of_below hb))
  clear hb
  have z0 : w5.cell? ⟨Z, 0, none⟩ = some (.int .i64 1) := hZ.cell rfl
  have z1 : w5.cell? ⟨Z, 1, none⟩ = some (.slice A L.length cap) := hZ.cell rfl
  go_wp2_with fail
  refine (cput_any (by exact hC.1) 1 (by omega)).mono ?_
  rintro en w6 ⟨rfl, b6⟩
  have hlog6 := hlog4.below b6
  have hsb6 := hsb4.below b6
  have hZ6 := hZ.below b6
  have hC6 := hC.below b6
  have HF6 := Lib.hid (HF5.out.same (FK.of_below b6))
  clear hlog4 hsb4 hZ hC b6 z0 z1
  go_wp2_with fail
  refine (append_any (by exact hlog6) (by simp) (by have := encConf_len ⟨1, L⟩; simp only at this; unfold maxLen; omega) (Nat.le_trans hlog6.1 (Nat.le_of_lt hlog6.lt))).mono ?_
  rintro en w7 ⟨rfl, ⟨u7, hlog7⟩, hk7⟩
  rw [HWF.out] at hlog7 ⊢
  simp only at hlog7 ⊢
  have hf7 := hk7.fk hlog6
  have kk : ∀ {k : Nat} {T : TypeId}, IsCells w6 k T → T ≠ 114 → T ≠ 5 → w7.heap[k]? = w6.heap[k]? := fun {k T} hc h1 h2 => hf7.at hc (fun e => by
    rw [List.mem_singleton.1 e] at hc
    exact cells_ne hc ⟨_, _, hlog6.2.1⟩ h1 rfl) h2
  have hsb7 : BlkAt w7 sb 23 (setCells7 s) := (kk hsb6.kind (by decide) (by decide)).trans hsb6
  have hZ7 : BlkAt w7 Z 35 [.int .i64 1, .slice A L.length cap] := (kk hZ6.kind (by decide) (by decide)).trans hZ6
  have hC7 : ChainS w7 (.slice A L.length cap) L := hC6.fkAt (fun k hk => kk hk (by decide) (by decide)) hk7.size
  have HF7 := Lib.hid (HF6.out.same hf7)
  clear hlog6 hsb6 hZ6 hC6 hk7 hf7 kk
  have q0 : w7.cell? ⟨sb, 0, none⟩ = some (.int .i64 s.nodes) := hsb7.cell rfl
  have q1 : w7.cell? ⟨sb, 1, none⟩ = some (.int .i64 s.clients) := hsb7.cell rfl
  have q2 : w7.cell? ⟨sb, 2, none⟩ = some (.int .i64 s.timers) := hsb7.cell rfl
  have q3 : w7.cell? ⟨sb, 3, none⟩ = some (.int .i64 s.lease) := hsb7.cell rfl
  have q4 : w7.cell? ⟨sb, 4, none⟩ = some (.int .i64 s.suspect) := hsb7.cell rfl
  have q5 : w7.cell? ⟨sb, 5, none⟩ = some (.int .i64 s.skew) := hsb7.cell rfl
  have q6 : w7.cell? ⟨sb, 6, none⟩ = some (.int .i64 s.base) := hsb7.cell rfl
  have z0 : w7.cell? ⟨Z, 0, none⟩ = some (.int .i64 1) := hZ7.cell rfl
  have z1 : w7.cell? ⟨Z, 1, none⟩ = some (.slice A L.length cap) := hZ7.cell rfl
  go_wp2_with fail
  refine (mbegin_any (c := ⟨1, L⟩) (s := s) (by exact hlog7) hset hrt (by exact hC7) htb).mono ?_
  rintro en w8 ⟨x, b, rfl, hlb, hM, hF, hFN⟩
  have HM := Lib.hid hM
  have HF8 := Lib.hid (HF7.out.same hF)
  have HFN : Hid (FNew w [lb] (b.list x)) := Lib.hid ((FNew.refl w [lb]).trans HF7.out.size hFN)
  have HLB := Lib.hid hlb
  clear hlog7 hsb7 hZ7 hC7 q0 q1 q2 q3 q4 q5 q6 z0 z1 hM hF hFN hlb
  go_wp2_with fail
  go_ret2
  exact ⟨x, b, rfl, HLB.out, by rw [HL.out]; exact HM.out, HF8.out, HFN.out⟩
end Go.Proofs.YtomfmejodmfioaaGreat
namespace Go.Proofs.YtomfmejodmfioaaGreat
open Go.RowKit Go.Maps Go.ChangeShapes Go.WideShapes Go.Joins Go.Deep
set_option linter.unusedVariables false


set_option maxRecDepth 100000 in
set_option maxHeartbeats 1000000 in

theorem mrecover_nil (s : SetV) (now : Int) (w : World) : Calls Tryz.prog 23 #[.agg (setCells7 s).toArray, .pointer none, .int .i64 now] w fun e w' => e = .returned (.tuple #[.pointer none, .int .i64 12]) ∧ Below w.heap.size w w' := by
  have hb := (Below.refl w.heap.size w).alloc (Nat.le_refl _) (.cells (setCells7 s).toArray 23)
  go_enter Tryz.func23, Tryz.ntmps23
  go_upto_region 1 with (fail)
  change Code.wp _ _ _ _ (w.alloc (.cells (setCells7 s).toArray 23))
  generalize w.alloc (.cells (setCells7 s).toArray 23) = W at *
  go_wp2_with fail
  go_ret2
  exact ⟨rfl, hb⟩
set_option maxRecDepth 100000 in
set_option maxHeartbeats 1000000 in

theorem mrecover_arg {s : SetV} (hs : mayS s = false) (lb : Nat) (now : Int) (w : World) : Calls Tryz.prog 23 #[.agg (setCells7 s).toArray, .pointer (some ⟨lb, 0, none⟩), .int .i64 now] w fun e w' => e = .returned (.tuple #[.pointer none, .int .i64 1]) ∧ Below w.heap.size w w' := by
  have hsb0 := BlkAt.new w 23 (setCells7 s)
  have hb := (Below.refl w.heap.size w).alloc (Nat.le_refl _) (.cells (setCells7 s).toArray 23)
  go_enter Tryz.func23, Tryz.ntmps23
  go_upto_region 1 with (fail)
  change Code.wp _ _ _ _ (w.alloc (.cells (setCells7 s).toArray 23))
  change BlkAt (w.alloc (.cells (setCells7 s).toArray 23)) _ _ _ at hsb0
  generalize w.alloc (.cells (setCells7 s).toArray 23) = W at *
  obtain ⟨sb, hsbd⟩ : ∃ sb, sb = w.heap.size := ⟨_, rfl⟩
  rw [← hsbd] at hsb0 ⊢
  have hsn : w.heap.size ≤ sb := Nat.le_of_eq hsbd.symm
  clear hsbd
  go_wp2_with fail
  refine (mmay_any (s := s) (by exact hsb0)).mono ?_
  rintro en w2 ⟨rfl, rfl⟩
  rw [hs]
  go_wp2_with fail
  go_ret2
  exact ⟨rfl, hb⟩
set_option maxRecDepth 100000 in
set_option maxHeartbeats 1000000 in

theorem mrecover_none {B : Nat} {w : World} {lb : Nat} {u : Value} {l : List UInt8} {t : Bool} (hlog : LogAt B w lb u l t) (hl : l.length ≤ 65536) {s : SetV} (hset : mayS s = true) (hno : (scanS l).1 = []) (now : Int) :
    Calls Tryz.prog 23 #[.agg (setCells7 s).toArray, .pointer (some ⟨lb, 0, none⟩), .int .i64 now] w fun e w' => e = .returned (.tuple #[.pointer none, .int .i64 10]) ∧ FK [lb] B w w' := by
  have hsb0 := BlkAt.new w 23 (setCells7 s)
  have hb := (Below.refl w.heap.size w).alloc (Nat.le_refl _) (.cells (setCells7 s).toArray 23)
  go_enter Tryz.func23, Tryz.ntmps23
  go_upto_region 1 with (fail)
  change Code.wp _ _ _ _ (w.alloc (.cells (setCells7 s).toArray 23))
  change BlkAt (w.alloc (.cells (setCells7 s).toArray 23)) _ _ _ at hsb0
  generalize w.alloc (.cells (setCells7 s).toArray 23) = W at *
  obtain ⟨sb, hsbd⟩ : ∃ sb, sb = w.heap.size := ⟨_, rfl⟩
  rw [← hsbd] at hsb0 ⊢
  have hsn : w.heap.size ≤ sb := Nat.le_of_eq hsbd.symm
  clear hsbd
  have hlog1 := hlog.below hb
  go_wp2_with fail
  refine (mmay_any (s := s) (by exact hsb0)).mono ?_
  rintro en w2 ⟨rfl, rfl⟩
  rw [hset]
  go_wp2_with fail
  refine (recover_any (by exact hlog1) hl).mono ?_
  rintro en w3 ⟨a, acap, rfl, hS3, hl3, hk3⟩
  rw [hno]
  have HF : Hid (FK [lb] B w w3) := Lib.hid ((FK.of_below hb).same ⟨hk3.os, hk3.tape, hk3.output, hk3.size, fun k hk hn hu => hk3.block k hk (by simpa using hn) (by simp)⟩)
  clear hS3 hl3 hk3 hlog1 hlog hb hsb0
  go_wp2_with fail
  go_ret2
  exact ⟨rfl, HF.out⟩
set_option maxRecDepth 100000 in
set_option maxHeartbeats 8000000 in

theorem mrecover_any {B : Nat} {w : World} {lb : Nat} {u : Value} {l : List UInt8} {t : Bool} (hlog : LogAt B w lb u l t) (hl : l.length ≤ 65536) {s : SetV} (hset : mayS s = true) {cs : List ConfV} (hrow : Row cs) {last : ConfV} (hlast : cs.getLast? = some last) (hsc : (scanS l).1 = cs.map encConf) (hcl : cs.length ≤ 100000) {now : Int} (ht : TOk now) (ht2 : TOk (now + s.lease)) :
    Calls Tryz.prog 23 #[.agg (setCells7 s).toArray, .pointer (some ⟨lb, 0, none⟩), .int .i64 now] w fun e w' => MBegun B w w' lb e 1000000 (recoverM s cs last now) (l.take (scanS l).2) := by
  have hR := hrow
  have hcpos : 0 < cs.length := by
    cases cs with
    | nil => simp at hlast
    | cons c cs => simp
  have hl9 : cs[cs.length - 1]? = some last := by rw [← List.getLast?_eq_getElem?]; exact hlast
  have HRT := Lib.hid hrow.1
  have HFOL := Lib.hid hrow.2
  have HL9 := Lib.hid hl9
  clear hrow hR hlast hl9
  have hsb0 := BlkAt.new w 23 (setCells7 s)
  have hb := (Below.refl w.heap.size w).alloc (Nat.le_refl _) (.cells (setCells7 s).toArray 23)
  go_enter Tryz.func23, Tryz.ntmps23
  go_upto_region 1 with (fail)
  change Code.wp _ _ _ _ (w.alloc (.cells (setCells7 s).toArray 23))
  change BlkAt (w.alloc (.cells (setCells7 s).toArray 23)) _ _ _ at hsb0
  generalize w.alloc (.cells (setCells7 s).toArray 23) = W at *
  obtain ⟨sb, hsbd⟩ : ∃ sb, sb = w.heap.size := ⟨_, rfl⟩
  rw [← hsbd] at hsb0 ⊢
  have hsn : w.heap.size ≤ sb := Nat.le_of_eq hsbd.symm
  clear hsbd
  have hlog1 := hlog.below hb
  go_wp2_with fail
  refine (mmay_any (s := s) (by exact hsb0)).mono ?_
  rintro en w2 ⟨rfl, rfl⟩
  rw [hset]
  go_wp2_with fail
  refine (recover_any (by exact hlog1) hl).mono ?_
  rintro en w3 ⟨a, acap, rfl, hS3, hl3, hk3⟩
  have hFK3 : FK [lb] B W w3 := ⟨hk3.os, hk3.tape, hk3.output, hk3.size, fun k hk hn hu => hk3.block k hk (by simpa using hn) (by simp)⟩
  have HF3 : Hid (FK [lb] B w w3) := Lib.hid ((FK.of_below hb).same hFK3)
  have hsb3 : BlkAt w3 sb 23 (setCells7 s) := (hk3.block sb hsb0.lt (fun e => cells_ne hsb0.kind ⟨_, _, hlog1.2.1⟩ (by decide) e) (by simp)).trans hsb0
  rw [hsc] at hS3 ⊢
  rw [List.length_map] at hS3 ⊢
  obtain ⟨v3, hl3⟩ := hl3
  have HLOG3 := Lib.hid hl3
  have HSB3 := Lib.hid hsb3
  have HS3 : Hid (StrsO W.heap.size w3 (.slice a cs.length acap) (cs.map encConf)) := Lib.hid hS3
  have hWn := hb.size
  clear hlog hlog1 hsb0 hb hk3 hFK3 hl3 hsb3 hS3
  have hcp0 : ((cs.length : Int) == 0) = false := by rw [beq_eq_false_iff_ne]; omega
  have HSC := Lib.hid hsc
  have HHL := Lib.hid hl
  have HT2 := Lib.hid ht2
  have HT1 := Lib.hid ht
  have HSET := Lib.hid hset
  clear hsc hl ht2 ht hset hWn hsn
  go_upto_region 9 with (fail)
  have hCB := BlkAt.new w3 35 [.int .i64 0, .slice none 0 0]
  have hb := (Below.refl w3.heap.size w3).alloc (Nat.le_refl _) (.cells #[.int .i64 0, .slice none 0 0] 35)
  change Code.wp _ _ _ _ (w3.alloc (.cells #[.int .i64 0, .slice none 0 0] 35))
  change BlkAt (w3.alloc (.cells #[.int .i64 0, .slice none 0 0] 35)) _ _ _ at hCB
  generalize w3.alloc (.cells #[.int .i64 0, .slice none 0 0] 35) = w4 at *
  obtain ⟨cb, hcbd⟩ : ∃ cb, cb = w3.heap.size := ⟨_, rfl⟩
  rw [← hcbd] at hCB ⊢
  have hcbn : w3.heap.size ≤ cb := Nat.le_of_eq hcbd.symm
  clear hcbd
  go_wp2_with fail
  clear hcp0
  go_loopw [32] (fun i wr => ∃ (k : Nat) (A : Option Addr) (cap : Nat), k ≤ cs.length ∧ i = .int .i64 k ∧ BlkAt wr cb 35 [.int .i64 (prevC cs k).epoch, .slice A (prevC cs k).chain.length cap] ∧ ChainS wr (.slice A (prevC cs k).chain.length cap) (prevC cs k).chain ∧ Below w3.heap.size w3 wr) (fun i _ => cs.length - (intOf i).toNat)
  case atStart => exact ⟨0, none, 0, Nat.zero_le _, rfl, hCB, ChainS.nil _, hb⟩
  case round =>
    obtain ⟨k, A, cap, hk, rfl, hCBr, hcp, hbr⟩ := hrel
    clear hCB hb
    have hCB := hCBr
    have hb := hbr
    clear hCBr hbr
    by_cases hlt' : k < cs.length
    · obtain ⟨d, hd⟩ : ∃ d, cs[k]? = some d := ⟨_, List.getElem?_eq_getElem hlt'⟩
      have hdr := HRT.out d (List.mem_of_getElem? hd)
      have HDL := Lib.hid (encConf_len d)
      have hd8 := right_len hdr
      have HDN := Lib.hid (prev_succ hd)
      have HFD : Hid (0 < k → followsC (prevC cs k) d = true) := Lib.hid (fun h0 => by
        obtain ⟨j, rfl⟩ : ∃ j, k = j + 1 := ⟨k - 1, by omega⟩
        obtain ⟨c0, hc0⟩ : ∃ c0, cs[j]? = some c0 := ⟨_, List.getElem?_eq_getElem (by omega)⟩
        rw [prev_succ hc0]
        exact HFOL.out j c0 d hc0 hd)
      obtain ⟨sa, scap, hsq, hsl, hsc'⟩ := (HS3.out.below hb).v
      simp only [Value.slice.injEq] at hsq
      obtain ⟨rfl, hxx, rfl⟩ := hsq
      clear hxx
      obtain ⟨rb, roff, rfl, hrb, hrc⟩ := hsc' (by rw [List.length_map]; omega)
      have r0 : wr.cell? ⟨rb, roff + k, none⟩ = some (.string ⟨(encConf d).toArray⟩) := hrc k (encConf d) (by rw [List.getElem?_map, hd]; rfl)
      clear hsl hsc' hrc hd
      generalize prevC cs k = pc at *
      go_wp2_with fail
      refine (cread_s (by have := HDL.out; omega) (readC_enc hdr) _).mono ?_
      rintro en w5 ⟨vd, rfl, hC, b5⟩
      obtain ⟨DA, dcap, rfl⟩ := hC.form
      rw [show okErr true = 0 from rfl]
      clear r0
      replace hCB := hCB.below b5
      replace hcp := hcp.below b5
      replace hb := below_step hb b5
      clear b5
      go_upto_region 13 with (fail)
      have hZ := BlkAt.new w5 35 [.int .i64 d.epoch, .slice DA d.chain.length dcap]
      replace hCB := hCB.below ((Below.refl _ _).alloc (Nat.le_refl _) (.cells #[.int .i64 d.epoch, .slice DA d.chain.length dcap] 35))
      replace hcp := hcp.below ((Below.refl _ _).alloc (Nat.le_refl _) (.cells #[.int .i64 d.epoch, .slice DA d.chain.length dcap] 35))
      replace hC := hC.below ((Below.refl _ _).alloc (Nat.le_refl _) (.cells #[.int .i64 d.epoch, .slice DA d.chain.length dcap] 35))
      replace hb := hb.alloc hb.size (.cells #[.int .i64 d.epoch, .slice DA d.chain.length dcap] 35)
      change Code.wp _ _ _ _ (w5.alloc (.cells #[.int .i64 d.epoch, .slice DA d.chain.length dcap] 35))
      change BlkAt (w5.alloc (.cells #[.int .i64 d.epoch, .slice DA d.chain.length dcap] 35)) _ _ _ at hZ
      have hZn := (show w5.heap.size ≤ w5.heap.size from Nat.le_refl _)
      generalize w5.alloc (.cells #[.int .i64 d.epoch, .slice DA d.chain.length dcap] 35) = w6 at *
      generalize w5.heap.size = Z at hZ ⊢
      clear hZn
      have k0 : w6.cell? ⟨cb, 0, none⟩ = some (.int .i64 pc.epoch) := hCB.cell rfl
      have k1 : w6.cell? ⟨cb, 1, none⟩ = some (.slice A pc.chain.length cap) := hCB.cell rfl
      have z0 : w6.cell? ⟨Z, 0, none⟩ = some (.int .i64 d.epoch) := hZ.cell rfl
      have z1 : w6.cell? ⟨Z, 1, none⟩ = some (.slice DA d.chain.length dcap) := hZ.cell rfl
      by_cases h0 : 0 < k
      · have h0' : (0 : Int) < (k : Int) := by omega
        have hfo := HFD.out h0
        go_wp2_with fail
        refine (cfollows_at (by exact hcp.1) (by exact hC.1) (show followsC ⟨pc.epoch, pc.chain⟩ ⟨d.epoch, d.chain⟩ = true from hfo)).mono ?_
        rintro en w7 ⟨rfl, b7⟩
        clear k0 k1 z0 z1
        replace hCB := hCB.below b7
        replace hcp := hcp.below b7
        replace hC := hC.below b7
        replace hZ := hZ.below b7
        replace hb := below_step hb b7
        clear b7
        have z0 : w7.cell? ⟨Z, 0, none⟩ = some (.int .i64 d.epoch) := hZ.cell rfl
        have z1 : w7.cell? ⟨Z, 1, none⟩ = some (.slice DA d.chain.length dcap) := hZ.cell rfl
        have k0 : w7.cell? ⟨cb, 0, none⟩ = some (.int .i64 pc.epoch) := hCB.cell rfl
        have k1 : w7.cell? ⟨cb, 1, none⟩ = some (.slice A pc.chain.length cap) := hCB.cell rfl
        have kf := hCB.free
        have g1 := grown_setCell w7 cb 0 (.int .i64 d.epoch)
        have g2 := grown_setCell (w7.setCell ⟨cb, 0, none⟩ (.int .i64 d.epoch)) cb 1 (.slice DA d.chain.length dcap)
        have gg := grown_two g1 g2
        have HB9 := Lib.hid (hb.grown gg hb.size (by intro j hj; cases hj; exact hcbn))
        have HCB9 : Hid (BlkAt ((w7.setCell ⟨cb, 0, none⟩ (.int .i64 d.epoch)).setCell ⟨cb, 1, none⟩ (.slice DA d.chain.length dcap)) cb 35 [.int .i64 d.epoch, .slice DA d.chain.length dcap]) := Lib.hid ((hCB.set 0 (.int .i64 d.epoch)).set 1 (.slice DA d.chain.length dcap))
        have HC9 := Lib.hid (hC.set2 hCB (.int .i64 d.epoch) (.slice DA d.chain.length dcap))
        clear hCB hcp hC hZ hb g1 g2 gg
        go_wp2_with fail
        go_roundw
        case rel => exact ⟨k + 1, DA, dcap, by omega, by go_num, by rw [HDN.out]; exact HCB9.out, by rw [HDN.out]; exact HC9.out, HB9.out⟩
        case measure => simp [intOf]; omega
      · have h0' : ¬ (0 : Int) < (k : Int) := by omega
        obtain ⟨w7, hw7⟩ : ∃ w7, w7 = w6 := ⟨_, rfl⟩
        rw [← hw7] at hCB hcp hC hZ hb k0 k1 z0 z1 ⊢
        clear hw7 k0 k1
        have z0 : w7.cell? ⟨Z, 0, none⟩ = some (.int .i64 d.epoch) := hZ.cell rfl
        have z1 : w7.cell? ⟨Z, 1, none⟩ = some (.slice DA d.chain.length dcap) := hZ.cell rfl
        have k0 : w7.cell? ⟨cb, 0, none⟩ = some (.int .i64 pc.epoch) := hCB.cell rfl
        have k1 : w7.cell? ⟨cb, 1, none⟩ = some (.slice A pc.chain.length cap) := hCB.cell rfl
        have kf := hCB.free
        have g1 := grown_setCell w7 cb 0 (.int .i64 d.epoch)
        have g2 := grown_setCell (w7.setCell ⟨cb, 0, none⟩ (.int .i64 d.epoch)) cb 1 (.slice DA d.chain.length dcap)
        have gg := grown_two g1 g2
        have HB9 := Lib.hid (hb.grown gg hb.size (by intro j hj; cases hj; exact hcbn))
        have HCB9 : Hid (BlkAt ((w7.setCell ⟨cb, 0, none⟩ (.int .i64 d.epoch)).setCell ⟨cb, 1, none⟩ (.slice DA d.chain.length dcap)) cb 35 [.int .i64 d.epoch, .slice DA d.chain.length dcap]) := Lib.hid ((hCB.set 0 (.int .i64 d.epoch)).set 1 (.slice DA d.chain.length dcap))
        have HC9 := Lib.hid (hC.set2 hCB (.int .i64 d.epoch) (.slice DA d.chain.length dcap))
        clear hCB hcp hC hZ hb g1 g2 gg
        go_wp2_with fail
        go_roundw
        case rel => exact ⟨k + 1, DA, dcap, by omega, by go_num, by rw [HDN.out]; exact HCB9.out, by rw [HDN.out]; exact HC9.out, HB9.out⟩
        case measure => simp [intOf]; omega
    · have hke : k = cs.length := by omega
      subst hke
      have hpl : prevC cs cs.length = last := by
        unfold prevC
        rw [if_neg (by omega), HL9.out]
        rfl
      rw [hpl] at hCB hcp
      clear hpl
      have hlr := HRT.out last (List.mem_of_getElem? HL9.out)
      have hsbr := HSB3.out.below hb
      have q0 : wr.cell? ⟨sb, 0, none⟩ = some (.int .i64 s.nodes) := hsbr.cell rfl
      have q1 : wr.cell? ⟨sb, 1, none⟩ = some (.int .i64 s.clients) := hsbr.cell rfl
      have q2 : wr.cell? ⟨sb, 2, none⟩ = some (.int .i64 s.timers) := hsbr.cell rfl
      have q3 : wr.cell? ⟨sb, 3, none⟩ = some (.int .i64 s.lease) := hsbr.cell rfl
      have q4 : wr.cell? ⟨sb, 4, none⟩ = some (.int .i64 s.suspect) := hsbr.cell rfl
      have q5 : wr.cell? ⟨sb, 5, none⟩ = some (.int .i64 s.skew) := hsbr.cell rfl
      have q6 : wr.cell? ⟨sb, 6, none⟩ = some (.int .i64 s.base) := hsbr.cell rfl
      have k0 : wr.cell? ⟨cb, 0, none⟩ = some (.int .i64 last.epoch) := hCB.cell rfl
      have k1 : wr.cell? ⟨cb, 1, none⟩ = some (.slice A last.chain.length cap) := hCB.cell rfl
      have hlogr := HLOG3.out.below hb
      go_wp2_with fail
      refine (mbegin_any (c := last) (s := s) (by exact hlogr) HSET.out hlr (by exact hcp) HT1.out).mono ?_
      rintro en w8 ⟨x, b, rfl, hlb, hM, hF, hFN⟩
      have hkb : ∀ {k : Nat} {T : TypeId}, IsCells wr k T → T ≠ 114 → T ≠ 5 → w8.heap[k]? = wr.heap[k]? := fun {k T} hc h1 h2 => hF.at hc (fun e => by
        rw [List.mem_singleton.1 e] at hc
        exact cells_ne hc ⟨_, _, hlogr.2.1⟩ h1 rfl) h2
      have HSB8 : Hid (BlkAt w8 sb 23 (setCells7 s)) := Lib.hid ((hkb hsbr.kind (by decide) (by decide)).trans hsbr)
      have hSr := HS3.out.below hb
      have HS8 : Hid (StrsO W.heap.size w8 (.slice a cs.length acap) (cs.map encConf)) := Lib.hid ⟨hSr.1, by
        rcases hSr.2 with h6 | ⟨g, cap', cur, hv, hg, hr, hrest⟩
        · exact .inl h6
        · exact .inr ⟨g, cap', cur, hv, hg, (hkb ⟨_, _, hr⟩ (by decide) (by decide)).trans hr, hrest⟩⟩
      have HF8 : Hid (FK [lb] B w w8) := Lib.hid ((HF3.out.same (FK.of_below hb)).same hF)
      have HFN : Hid (FNew w [lb] (b.list x)) := Lib.hid ((FNew.refl w [lb]).trans (HF3.out.same (FK.of_below (bs := [lb]) (B := B) hb)).size hFN)
      have HLB := Lib.hid hlb
      have HM8 := Lib.hid hM
      have hBM : beginM s last now = { beginM s last now with sat := satF (beginM s last now).sat (cs.take 0) } := rfl
      have hM : MAt B w8 x b (100 + 8 * 0) { beginM s last now with sat := satF (beginM s last now).sat (cs.take 0) } (l.take (scanS l).2) := hM
      clear hCB hcp hb hsbr q0 q1 q2 q3 q4 q5 q6 k0 k1 hlogr hF hFN hlb hkb hSr hBM
      go_wp2_with fail
      go_loopw [63] (fun i wr => ∃ (k : Nat), k ≤ cs.length ∧ i = .int .i64 k ∧ MAt B wr x b (100 + 8 * k) { beginM s last now with sat := satF (beginM s last now).sat (cs.take k) } (l.take (scanS l).2) ∧ FK (b.list x) B w8 wr) (fun i _ => cs.length - (intOf i).toNat)
      case atStart => exact ⟨0, Nat.zero_le _, rfl, hM, FK.refl _ _ _⟩
      case round =>
        obtain ⟨k, hk, rfl, hMr, hF⟩ := hrel
        clear hM
        have hM := hMr
        clear hMr
        by_cases hlt' : k < cs.length
        · obtain ⟨d, hd⟩ : ∃ d, cs[k]? = some d := ⟨_, List.getElem?_eq_getElem hlt'⟩
          have hdr := HRT.out d (List.mem_of_getElem? hd)
          have HDL := Lib.hid (encConf_len d)
          have hd8 := right_len hdr
          have HSN := Lib.hid (satF_snoc (beginM s last now).sat hd)
          have hSq : StrsO W.heap.size wr (.slice a cs.length acap) (cs.map encConf) := own_fk HS8.out HM8.out hF (by decide) (by decide) (by decide) (by decide)
          obtain ⟨sa, scap, hsq, hsl, hsc'⟩ := hSq.v
          simp only [Value.slice.injEq] at hsq
          obtain ⟨rfl, hxx, rfl⟩ := hsq
          clear hxx
          obtain ⟨rb, roff, rfl, hrb, hrc⟩ := hsc' (by rw [List.length_map]; omega)
          have r0 : wr.cell? ⟨rb, roff + k, none⟩ = some (.string ⟨(encConf d).toArray⟩) := hrc k (encConf d) (by rw [List.getElem?_map, hd]; rfl)
          clear hsl hsc' hrc hd hSq
          go_wp2_with fail
          refine (cread_s (by have := HDL.out; omega) (readC_enc hdr) _).mono ?_
          rintro en w5 ⟨vd, rfl, hC, b5⟩
          obtain ⟨DA, dcap, rfl⟩ := hC.form
          rw [show okErr true = 0 from rfl]
          clear r0
          have hM5 := hM.below b5
          have hF5 := hF.same (FK.of_below b5)
          clear hM hF b5
          have hb := Below.refl w5.heap.size w5
          go_upto_region 22 with (fail)
          have hZ := BlkAt.new w5 35 [.int .i64 d.epoch, .slice DA d.chain.length dcap]
          replace hM5 := hM5.below ((Below.refl _ _).alloc (Nat.le_refl _) (.cells #[.int .i64 d.epoch, .slice DA d.chain.length dcap] 35))
          replace hC := hC.below ((Below.refl _ _).alloc (Nat.le_refl _) (.cells #[.int .i64 d.epoch, .slice DA d.chain.length dcap] 35))
          replace hb := hb.alloc hb.size (.cells #[.int .i64 d.epoch, .slice DA d.chain.length dcap] 35)
          change Code.wp _ _ _ _ (w5.alloc (.cells #[.int .i64 d.epoch, .slice DA d.chain.length dcap] 35))
          change BlkAt (w5.alloc (.cells #[.int .i64 d.epoch, .slice DA d.chain.length dcap] 35)) _ _ _ at hZ
          have hZn := (show w5.heap.size ≤ w5.heap.size from Nat.le_refl _)
          generalize w5.alloc (.cells #[.int .i64 d.epoch, .slice DA d.chain.length dcap] 35) = w6 at *
          generalize w5.heap.size = Z at hZ ⊢
          clear hZn
          have hF6 := hF5.same (FK.of_below hb)
          clear hF5 hb
          have z0 : w6.cell? ⟨Z, 0, none⟩ = some (.int .i64 d.epoch) := hZ.cell rfl
          have z1 : w6.cell? ⟨Z, 1, none⟩ = some (.slice DA d.chain.length dcap) := hZ.cell rfl
          go_wp2_with fail
          refine (mseat_any (L := d.chain) (by exact hM5) (by exact hC) (w64_seats hdr) (by omega)).mono ?_
          rintro en w7 ⟨rfl, hM7, hK7⟩
          have HM7 : Hid (MAt B w7 x b (100 + 8 * (k + 1)) { beginM s last now with sat := satF (beginM s last now).sat (cs.take (k + 1)) } (l.take (scanS l).2)) := Lib.hid (by
            rw [HSN.out]
            exact hM7.mono (by omega))
          have HF7 := Lib.hid (hF6.same hK7)
          clear hM5 hC hZ hF6 z0 z1 hM7 hK7
          go_wp2_with fail
          go_roundw
          case rel => exact ⟨k + 1, by omega, by go_num, HM7.out, HF7.out⟩
          case measure => simp [intOf]; omega
        · have hke : k = cs.length := by omega
          subst hke
          rw [List.take_of_length_le (Nat.le_refl _)] at hM
          go_upto_region 24 with (fail)
          have hsbq := HSB8.out.fk HM8.out hF (by decide) (by decide) (by decide) (by decide)
          have bd : Below wr.heap.size wr wr.drew := below_drewN (Below.refl _ _) 1
          have hMd := hM.below bd
          have hFd := hF.same (FK.of_below bd)
          have hsbd := hsbq.below bd
          have hwr : IntKind.i64.wrap (now + s.lease) = now + s.lease := by rw [IntKind.wrap_i64]; have := HT2.out; unfold TOk at this; omega
          clear hM hF hsbq bd
          refine wp_region_noPanic ?_
          refine wp_region_held_drew (S := (fun w' => w'.cell? ⟨x, 10, none⟩ = some (.pointer (some ⟨b.bk, 0, none⟩)) ∧ w'.cell? ⟨sb, 3, none⟩ = some (.int .i64 s.lease))) (by kernel_rfl) (by exact ⟨hMd.low rfl, hsbd.cell rfl⟩) (fun hHeld => ?_)
          refine wtk 0 hHeld ?_
          refine wtk 1 hHeld ?_
          refine wtk 2 hHeld ?_
          refine wtk 3 hHeld ?_
          refine wtk 4 hHeld ?_
          refine wtk 5 hHeld ?_
          refine wtk 6 hHeld ?_
          refine wtk 7 hHeld ?_
          refine wpAnyH_ready (rs := [8]) (by kernel_rfl) (by simp) (AllReadyH.cons (o := ?oq_1_8) ?op_1_8 (fun K hK => ?re_1_8) AllReadyH.nil)
          case op_1_8 => (simp only [List.getElem?_toArray, List.getElem?_cons_succ, List.getElem?_cons_zero]; rfl)
          go_simp
          go_at_call 55
          refine (lhold_any (x := now + s.lease) (by exact hMd.book)).mono ?_
          rintro en w9 ⟨rfl, hB9, hg9⟩
          have hM9 := MAt.putBk hMd hg9 hB9
          have hf9 : FK (b.list x) B wr.drew w9 := FK.of_grown hg9 (MAt.mem (b := b) (x := x) b.bk (by simp))
          have hsb9 := hsbd.fk hMd hf9 (by decide) (by decide) (by decide) (by decide)
          refine hK.out _ _ (by exact ⟨hM9.low rfl, hsb9.cell rfl⟩) (fun hHeld => ?_)
          clear hK K
          try simp only [Act.put, List.setIfInBounds_toArray, List.set_cons_zero, List.set_cons_succ]
          refine wpAnyH_done (by kernel_rfl) ?_ _
          refine NoPanic.normal ?_
          clear hHeld
          have HM9 := Lib.hid hM9
          have HF9 : Hid (FK [lb] B w w9) := Lib.hid (HF8.out.trans HFN.out (hFd.same hf9))
          clear hM9 hf9 hFd hMd hsbd
          go_wp2_with fail
          go_ret2
          exact ⟨x, b, rfl, HLB.out, HM9.out.mono (by omega), HF9.out, HFN.out⟩
end Go.Proofs.YtomfmejodmfioaaGreat
