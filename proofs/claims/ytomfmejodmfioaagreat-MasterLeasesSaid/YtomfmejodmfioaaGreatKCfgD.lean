/- A chain's bytes: nums, Put, Print. The reading half of package config: count, Take, Read. Read. The document's count and Take. The document's Read and Print. -/
import Derived.Test.YtomfmejodmfioaaGreatCfgRight
import Derived.Test.YtomfmejodmfioaaGreatKCfgB
import Derived.Test.YtomfmejodmfioaaGreatKCfg
import Derived.Test.YtomfmejodmfioaaGreatKBld
import Derived.Test.YtomfmejodmfioaaGreatKCodec
import Derived.Test.YtomfmejodmfioaaGreatKCfgC
namespace Go.Proofs.YtomfmejodmfioaaGreat
open Go.RowKit Go.ChangeShapes Go.WideShapes Go.Joins
set_option linter.unusedVariables false

/-- Numbers that lie in a row. -/
def NRow (w : World) (a : Nat) (v : List Int) : Prop := ∀ i x, v[i]? = some x → w.cell? ⟨a, i, none⟩ = some (.int .i64 x)
theorem NRow.below {w w' : World} {a n : Nat} {v : List Int} (h : NRow w a v) (ha : a < n) (hb : Below n w w') : NRow w' a v := fun i x hx => (hb.cell (p := ⟨a, i, none⟩) ha).trans (h i x hx)
theorem nrow_new {w : World} {T : TypeId} (x y : Int) : NRow (w.alloc (.cells #[.int .i64 x, .int .i64 y] T)) w.heap.size [x, y] := fun i z hz => by
  have h := BlkAt.new w T [.int .i64 x, .int .i64 y]
  match i, hz with
  | 0, hz => simp at hz; subst hz; exact h.cell rfl
  | 1, hz => simp at hz; subst hz; exact h.cell rfl
theorem encU_snoc {v : List Int} {k : Nat} {x : Int} (h : v[k]? = some x) : encU (v.take (k + 1)) = encU (v.take k) ++ enc (u64 x) := by
  obtain ⟨h1, h2⟩ := List.getElem?_eq_some_iff.1 h
  rw [List.take_succ_eq_append_getElem h1, h2]
  simp [encU]

theorem ret_tuple0 : True := trivial
set_option maxRecDepth 100000 in
set_option maxHeartbeats 1000000 in

theorem nums_any {w : World} {B b a cap : Nat} {l : List UInt8} {x y : Int} (hB : BldAt B b l w) (hBw : B ≤ w.heap.size) (hA : BlkAt w a 3 [.int .i64 x, .int .i64 y]) (hl : l.length ≤ 10000000) :
    Calls Tryz.prog 74 #[.pointer (some ⟨b, 0, none⟩), .slice (some ⟨a, 0, none⟩) 2 cap] w fun e w' => e = .returned (.tuple #[]) ∧ BldAt B b (l ++ encU [x, y]) w' ∧ Below B w w' ∧ TKeep w w' := by
  have hx := u64_wrap x
  have hy := u64_wrap y
  have HX := Lib.hid hx
  have HY := Lib.hid hy
  have e1 := (enc_len (u64 x)).2
  have e2 := (enc_len (u64 y)).2
  clear hx hy
  go_enter Tryz.func74, Tryz.ntmps74
  go_wp2_with fail
  refine wp_loop_rounds 3 ?_
  rw [rounds_succ]
  have a0 : w.cell? ⟨a, 0, none⟩ = some (.int .i64 x) := hA.cell rfl
  have hx := HX.out
  go_wp2_with fail
  refine (cuint_any (u64 x) (u64_fit x) _).mono ?_
  rintro e w1 ⟨rfl, b1⟩
  have hB := hB.below b1
  have hA := hA.below b1
  have k1 := TKeep.below b1
  have hb1 := (Below.refl B w).trans (b1.mono hBw)
  have hBw1 := hb1.size
  clear b1 a0 hx
  go_wp2_with fail
  refine (wstr_k (enc (u64 x)) (by exact hB) (by omega) (by omega)).mono ?_
  rintro e w2 ⟨rfl, hB, b2, k2⟩
  have hA : BlkAt w2 a 3 [.int .i64 x, .int .i64 y] := k2 a 3 _ _ hA (by decide) (by decide)
  have hb2 := hb1.trans b2
  have k2 := k1.trans k2
  have hBw2 := hb2.size
  clear k1 hb1 b2
  go_wp2_with fail
  rw [rounds_succ]
  have a1 : w2.cell? ⟨a, 1, none⟩ = some (.int .i64 y) := hA.cell rfl
  have hy := HY.out
  go_wp2_with fail
  refine (cuint_any (u64 y) (u64_fit y) _).mono ?_
  rintro e w3 ⟨rfl, b3⟩
  have hB := hB.below b3
  have k3 := k2.trans (TKeep.below b3)
  have hb3 := hb2.trans (b3.mono (by omega))
  have hBw3 := hb3.size
  clear b3 a1 hy k2
  go_wp2_with fail
  refine (wstr_k (enc (u64 y)) (by exact hB) (by simp; omega) (by omega)).mono ?_
  rintro e w4 ⟨rfl, hB, b4, k4⟩
  have hb4 := hb3.trans b4
  have k4 := k3.trans k4
  clear k3 b4
  go_wp2_with fail
  rw [rounds_succ]
  go_wp2_with fail
  go_end0
  exact ⟨rfl, by rw [encU_two, ← List.append_assoc]; exact hB, hb4, k4⟩

theorem bld_new {W : World} {b : Nat} (h : BlkAt W b 132 [.pointer none, .slice none 0 0]) : BldAt b b [] W :=
  .inl ⟨Nat.le_refl _, .slice none 0 0, h, World.ownsRow_nil _ _ _ _, by simp [Value.ownBlock]⟩
theorem BldAt.alloc {B b : Nat} {l : List UInt8} {w : World} (h : BldAt B b l w) (o : Obj) : BldAt B b l (w.alloc o) := h.below ((Below.refl _ _).alloc (Nat.le_refl _) _)
theorem below_low {n B : Nat} {w w1 w2 : World} (h : Below n w w1) (g : Below B w1 w2) (hn : n ≤ B) : Below n w w2 := h.trans (g.mono hn)

set_option maxRecDepth 100000 in
set_option maxHeartbeats 2000000 in

theorem cput_any {w : World} {v : Value} {L : List SeatV} (hv : ChainAt w v L) (e : Int) (hl : L.length ≤ 100000) :
    Calls Tryz.prog 45 #[.agg #[.int .i64 e, v]] w fun en w' => en = .returned (.string ⟨(encConf ⟨e, L⟩).toArray⟩) ∧ Below w.heap.size w w' := by
  obtain ⟨a, cap, rfl, hs⟩ := hv
  have hv : ChainAt w (.slice a L.length cap) L := ⟨a, cap, rfl, hs⟩
  have hLok := hs.2.1
  have hlen := hs.1
  unfold maxLen at hlen
  go_enter Tryz.func45, Tryz.ntmps45
  go_upto_region 2 with (fail)
  have hC : BlkAt ((w.alloc (.cells #[.int .i64 e, .slice a L.length cap] 35)).alloc (.cells #[.pointer none, .slice none 0 0] 132)) w.heap.size 35 [.int .i64 e, .slice a L.length cap] := (BlkAt.new w 35 [.int .i64 e, .slice a L.length cap]).alloc _
  have hE : BlkAt ((w.alloc (.cells #[.int .i64 e, .slice a L.length cap] 35)).alloc (.cells #[.pointer none, .slice none 0 0] 132)) (w.heap.size + 1) 132 [.pointer none, .slice none 0 0] := BlkAt.newAt (by simp) 132 [.pointer none, .slice none 0 0]
  have hb : Below w.heap.size w ((w.alloc (.cells #[.int .i64 e, .slice a L.length cap] 35)).alloc (.cells #[.pointer none, .slice none 0 0] 132)) := ((Below.refl w.heap.size w).alloc (Nat.le_refl _) _).alloc (by simp) _
  have hWs : w.heap.size + 2 ≤ ((w.alloc (.cells #[.int .i64 e, .slice a L.length cap] 35)).alloc (.cells #[.pointer none, .slice none 0 0] 132)).heap.size := by simp
  change Code.wp _ _ _ _ ((w.alloc (.cells #[.int .i64 e, .slice a L.length cap] 35)).alloc (.cells #[.pointer none, .slice none 0 0] 132))
  generalize (w.alloc (.cells #[.int .i64 e, .slice a L.length cap] 35)).alloc (.cells #[.pointer none, .slice none 0 0] 132) = W at *
  have hbn : w.heap.size ≤ w.heap.size + 1 := by omega
  have hbb : w.heap.size + 1 < w.heap.size + 2 := by omega
  have hb0 : w.heap.size + 1 ≠ w.heap.size := by omega
  generalize hbd : w.heap.size + 1 = b at *
  have hB := bld_new hE
  have hN := BlkAt.new W 3 [.int .i64 e, .int .i64 (L.length : Int)]
  have hl0 := encU_len [e, (L.length : Int)]
  have hl0 : (encU [e, (L.length : Int)]).length ≤ 20 := hl0
  clear hE
  have c0 : W.cell? ⟨w.heap.size, 0, none⟩ = some (.int .i64 e) := hC.cell rfl
  have c1 : W.cell? ⟨w.heap.size, 1, none⟩ = some (.slice a L.length cap) := hC.cell rfl
  go_wp2_with fail
  refine (nums_any (l := []) (by exact hB.alloc _) (by simp; omega) (by exact hN) (by simp)).mono ?_
  rintro en w2 ⟨rfl, hB, b2, k2⟩
  have hC : BlkAt w2 w.heap.size 35 [.int .i64 e, .slice a L.length cap] := (hC.alloc _).belowAt b2 (by omega)
  have hb := below_low (hb.alloc hb.size _) b2 (by omega)
  have hsz : b ≤ w2.heap.size := by have := b2.size; simp at this; omega
  rw [List.nil_append] at hB
  clear hN b2 k2 c0 c1 hWs
  have c1 : w2.cell? ⟨w.heap.size, 1, none⟩ = some (.slice a L.length cap) := hC.cell rfl
  go_wp2_with fail
  clear c1
  go_loopw [19] (fun i wr => ∃ k : Nat, k ≤ L.length ∧ i = .int .i64 k ∧ BldAt b b (encU [e, (L.length : Int)] ++ encSeats (L.take k)) wr ∧ Below w.heap.size w wr ∧ b ≤ wr.heap.size) (fun i _ => L.length - (intOf i).toNat)
  case atStart => exact ⟨0, Nat.zero_le _, rfl, by simpa [encSeats] using hB, hb, hsz⟩
  case round =>
    obtain ⟨k, hk, rfl, hB, hb, hsz⟩ := hrel
    have hl1 := encSeats_len (L.take k)
    rw [List.length_take] at hl1
    by_cases hlt : k < L.length
    · obtain ⟨bs, off, rfl, hab, hc⟩ := hs.2.2 (by omega)
      obtain ⟨s, hs'⟩ : ∃ s, L[k]? = some s := ⟨_, List.getElem?_eq_getElem hlt⟩
      obtain ⟨s0, s1, s2⟩ := (hc k s hs').of (w' := wr) fun j => hb.cell (p := ⟨bs, j, none⟩) hab
      have HT := Lib.hid (show encU [e, (L.length : Int)] ++ encSeats (L.take (k + 1)) = encU [e, (L.length : Int)] ++ encSeats (L.take k) ++ encU [s.node, s.life] ++ [flagB s.sync] by rw [take_snoc hs', encSeats_snoc, encSeat]; simp)
      obtain ⟨x, y, z⟩ := s
      simp only at s0 s1 s2 HT
      have hl2 : (encU [x, y]).length ≤ 20 := encU_len [x, y]
      have hHs := Lib.hid hs
      clear hc hs' hs hv
      go_upto_region 6 with (fail)
      have hS := BlkAt.new wr 49 [.int .i64 x, .int .i64 y, .bool z]
      have hB := hB.alloc (.cells #[.int .i64 x, .int .i64 y, .bool z] 49)
      have hb := hb.alloc hb.size (.cells #[.int .i64 x, .int .i64 y, .bool z] 49)
      have hsz : b ≤ (wr.alloc (.cells #[.int .i64 x, .int .i64 y, .bool z] 49)).heap.size := by simp; omega
      change Code.wp _ _ _ _ (wr.alloc (.cells #[.int .i64 x, .int .i64 y, .bool z] 49))
      change BlkAt (wr.alloc (.cells #[.int .i64 x, .int .i64 y, .bool z] 49)) _ _ _ at hS
      generalize wr.alloc (.cells #[.int .i64 x, .int .i64 y, .bool z] 49) = w3 at *
      generalize wr.heap.size = S at *
      clear s0 s1 s2
      have hN := BlkAt.new w3 3 [.int .i64 x, .int .i64 y]
      have s0 : w3.cell? ⟨S, 0, none⟩ = some (.int .i64 x) := hS.cell rfl
      have s1 : w3.cell? ⟨S, 1, none⟩ = some (.int .i64 y) := hS.cell rfl
      have hPl : (encU [e, (L.length : Int)] ++ encSeats (L.take k)).length ≤ 4000000 := by rw [List.length_append]; omega
      generalize encU [e, (L.length : Int)] ++ encSeats (L.take k) = P at *
      go_wp2_with fail
      refine (nums_any (by exact hB.alloc _) (by simp; omega) (by exact hN) (by omega)).mono ?_
      rintro en w4 ⟨rfl, hB, b4, k4⟩
      have hS : BlkAt w4 S 49 [.int .i64 x, .int .i64 y, .bool z] := k4 S 49 _ _ (hS.alloc _) (by decide) (by decide)
      have hb := below_low (hb.alloc hb.size _) b4 (by omega)
      have hsz : b ≤ w4.heap.size := by have := b4.size; simp at this; omega
      clear hN b4 k4 s0 s1
      have s2 : w4.cell? ⟨S, 2, none⟩ = some (.bool z) := hS.cell rfl
      cases z with
      | true =>
        go_wp2_with fail
        refine (wbyte_k 1 (by rfl) (by exact hB) (by rw [List.length_append]; omega) hsz).mono ?_
        rintro en w5 ⟨rfl, hB, b5, k5⟩
        have hb := below_low hb b5 (by omega)
        have hsz : b ≤ w5.heap.size := by have := b5.size; omega
        clear s2 hS b5 k5
        go_wp2_with fail
        go_roundw
        case rel => exact ⟨k + 1, by omega, by go_num, by rw [HT.out]; exact hB, hb, hsz⟩
        case measure => simp [intOf]; omega
      | false =>
        go_wp2_with fail
        refine (wbyte_k 0 (by rfl) (by exact hB) (by rw [List.length_append]; omega) hsz).mono ?_
        rintro en w5 ⟨rfl, hB, b5, k5⟩
        have hb := below_low hb b5 (by omega)
        have hsz : b ≤ w5.heap.size := by have := b5.size; omega
        clear s2 hS b5 k5
        go_wp2_with fail
        go_roundw
        case rel => exact ⟨k + 1, by omega, by go_num, by rw [HT.out]; exact hB, hb, hsz⟩
        case measure => simp [intOf]; omega
    · rw [List.take_of_length_le (by omega)] at hB
      go_wp2_with fail
      refine (bstr_any (by exact hB) hsz).mono ?_
      rintro en w3 ⟨rfl, b3⟩
      have hb := below_low hb b3 (by omega)
      go_wp2_with fail
      go_ret
      exact ⟨rfl, hb⟩

/-- What is printed of a chain: its bytes, or none. -/
def printC (c : ConfV) : List UInt8 × Int := if rightC c = true then (encConf c, 0) else ([], 1)
end Go.Proofs.YtomfmejodmfioaaGreat
namespace Go.Proofs.YtomfmejodmfioaaGreat
open Go.RowKit Go.ChangeShapes Go.WideShapes Go.Joins
set_option linter.unusedVariables false

theorem fst_E (e x : Int) : fst_ e x = fstE e x := rfl
set_option maxRecDepth 100000 in
set_option maxHeartbeats 1000000 in

theorem ccount_any {w : World} {b : Nat} {l : List UInt8} {e : Int} (h : RdAt w b l e) (hl : l.length ≤ 1000000) :
    Calls Tryz.prog 86 #[.pointer (some ⟨b, 0, none⟩)] w fun en w' => en = .returned (.int .i64 (cntC l e).1) ∧ RdAt w' b (cntC l e).2.1 (cntC l e).2.2 ∧ w.grownBy w' (some b) := by
  have hc := cntC.eq_1 l e
  have HL := Lib.hid (rdU_len l e)
  have hr := ruint_any h hl
  obtain ⟨n, l1, e1, hu⟩ : ∃ n l1 e1, rdU l e = (n, l1, e1) := ⟨_, _, _, rfl⟩
  rw [hu] at hc hr
  simp only at hc hr
  go_enter Tryz.func86, Tryz.ntmps86
  by_cases hn : 1099511627776 < n
  · rw [if_pos hn] at hc
    have HC := Lib.hid hc
    have hn' : (1099511627776 : Int) < (n : Int) := by omega
    clear hc hu hn
    go_wp2_with fail
    refine hr.mono ?_
    rintro en w1 ⟨rfl, hR, hg⟩
    go_wp2_with fail
    refine (fail_any hR).mono ?_
    rintro en w2 ⟨rfl, hR2, hg2⟩
    go_wp2_with fail
    go_ret
    rw [HC.out]
    exact ⟨rfl, hR2, grown_two hg hg2⟩
  · rw [if_neg hn] at hc
    have HC := Lib.hid hc
    have hn' : ¬ (1099511627776 : Int) < (n : Int) := by omega
    have hn1 : (0 : Int) ≤ (n : Int) := by omega
    have hn2 : (n : Int) ≤ 1099511627776 := by omega
    clear hc hu hn
    go_wp2_with fail
    refine hr.mono ?_
    rintro en w1 ⟨rfl, hR, hg⟩
    go_wp2_with fail
    go_ret
    rw [HC.out]
    exact ⟨rfl, hR, hg⟩
theorem ccount_at {w : World} {b : Nat} {l l' : List UInt8} {e e' : Int} {n : Nat} (h : RdAt w b l e) (hl : l.length ≤ 1000000) (hc : cntC l e = (n, l', e')) :
    Calls Tryz.prog 86 #[.pointer (some ⟨b, 0, none⟩)] w fun en w' => en = .returned (.int .i64 n) ∧ RdAt w' b l' e' ∧ w.grownBy w' (some b) := by
  have := ccount_any h hl
  rw [hc] at this
  exact this
theorem rbyte_at {w : World} {b : Nat} {l l' : List UInt8} {e e' : Int} {n : Nat} (h : RdAt w b l e) (hl : l.length ≤ 1000000) (hc : rdB l e = (n, l', e')) :
    Calls Tryz.prog 88 #[.pointer (some ⟨b, 0, none⟩)] w fun en w' => en = .returned (.int .u8 n) ∧ RdAt w' b l' e' ∧ w.grownBy w' (some b) := by
  have := rbyte_any h hl
  rw [hc] at this
  exact this
theorem RdAt.alloc {w : World} {b : Nat} {l : List UInt8} {e : Int} (h : RdAt w b l e) (o : Obj) : RdAt (w.alloc o) b l e := h.below ((Below.refl _ _).alloc (Nat.le_refl _) o)
theorem own_far {w w' : World} {base D : Nat} {e : TypeId} {size : Nat} {v : Value} {n : Nat} {xs : List Value} (h : w.ownsRow base e size v n xs) (hg : w.grownBy w' (some D)) (hD : D < base) : w'.ownsRow base e size v n xs :=
  h.kept hg (.inr (own_ne h hD).symm)

theorem own_farN {w w' : World} {base S : Nat} {e : TypeId} {size : Nat} {v : Value} {n : Nat} {xs : List Value} (h : w.ownsRow base e size v n xs) (hg : w.grownBy w' (some S)) (hS : some S ≠ v.ownBlock) : w'.ownsRow base e size v n xs :=
  h.kept hg (.inr hS.symm)
theorem grown_own {w w1 w2 : World} {row : Option Nat} {r : Option Nat} (h : w.grownBy w1 row) (g : w1.grownBy w2 r) (hr : ∀ k, r = some k → w.heap.size ≤ k) : w.grownBy w2 row :=
  ⟨g.os.trans h.os, g.tape.trans h.tape, g.output.trans h.output, Nat.le_trans h.size g.size, fun k hk hne => (g.block k (Nat.lt_of_lt_of_le hk h.size) (fun e => by have := hr k e.symm; omega)).trans (h.block k hk hne)⟩
/-- A chain whose block is new. -/
def ChainFrom (n : Nat) (w : World) (v : Value) (L : List SeatV) : Prop := ChainAt w v L ∧ ∀ k, v.ownBlock = some k → n ≤ k
theorem ChainFrom.nil (n : Nat) (w : World) : ChainFrom n w (.slice none 0 0) [] := ⟨ChainAt.nil w, by simp [Value.ownBlock]⟩
theorem ChainFrom.own {n base : Nat} {w : World} {e : TypeId} {v : Value} {L : List SeatV} (h : w.ownsRow base e 3 v L.length (seatsCells L)) (hok : ∀ s ∈ L, SeatOk s) (hn : n ≤ base) : ChainFrom n w v L :=
  ⟨chain_of_own h hok, fun k hk => Nat.le_trans hn (h.lt k hk).1⟩
/-- .. and whose row is seats'. -/
def ChainFromS (n : Nat) (w : World) (v : Value) (L : List SeatV) : Prop := ChainFrom n w v L ∧ SeatRow w v
theorem ChainFromS.nil (n : Nat) (w : World) : ChainFromS n w (.slice none 0 0) [] := ⟨ChainFrom.nil n w, SeatRow.nil _ _ _⟩
theorem ChainFromS.own {n base : Nat} {w : World} {v : Value} {L : List SeatV} (h : w.ownsRow base 49 3 v L.length (seatsCells L)) (hok : ∀ s ∈ L, SeatOk s) (hn : n ≤ base) : ChainFromS n w v L := ⟨ChainFrom.own h hok hn, SeatRow.own h⟩
set_option maxRecDepth 100000 in
set_option maxHeartbeats 4000000 in

theorem ctake_s {w : World} {b : Nat} {l l' : List UInt8} {e e' : Int} {c : ConfV} (h : RdAt w b l e) (hl : l.length ≤ 1000000) (hT : takeC l e = (c, l', e')) :
    Calls Tryz.prog 62 #[.pointer (some ⟨b, 0, none⟩)] w fun en w' => ∃ v, en = .returned (.agg #[.int .i64 c.epoch, v]) ∧ ChainFromS w.heap.size w' v c.chain ∧ RdAt w' b l' e' ∧ w.grownBy w' (some b) := by
  obtain ⟨i0, hi0, hz0, hz1, hz2⟩ := info_parts seat_full
  obtain ⟨n1, l1, e1, h1⟩ : ∃ n1 l1 e1, cntC l e = (n1, l1, e1) := ⟨_, _, _, rfl⟩
  obtain ⟨n2, l2, e2, h2⟩ : ∃ n2 l2 e2, cntC l1 e1 = (n2, l2, e2) := ⟨_, _, _, rfl⟩
  obtain ⟨L, l3, e3, h3⟩ : ∃ L l3 e3, takeN n2 l2 e2 = (L, l3, e3) := ⟨_, _, _, rfl⟩
  rw [takeC_of h1 h2 h3] at hT
  have hl1 := cntC_len l e
  rw [h1] at hl1
  have hl2 := cntC_len l1 e1
  rw [h2] at hl2
  have hn1 := cntC_le l e
  rw [h1] at hn1
  simp only at hl1 hl2 hn1
  have H1 := Lib.hid h1
  have H2 := Lib.hid h2
  have H3 := Lib.hid h3
  have HT := Lib.hid hT
  have hbl := h.lt
  clear h1 h2 h3 hT
  go_enter Tryz.func62, Tryz.ntmps62
  go_upto_region 1 with (fail)
  have hD := BlkAt.new w 35 [.int .i64 0, .slice none 0 0]
  have hR := h.alloc (.cells #[.int .i64 0, .slice none 0 0] 35)
  have hg : w.grownBy (w.alloc (.cells #[.int .i64 0, .slice none 0 0] 35)) (some b) := (World.grownBy.refl w _).trans (World.grownBy_alloc w _ _)
  have hsz : w.heap.size + 1 ≤ (w.alloc (.cells #[.int .i64 0, .slice none 0 0] 35)).heap.size := by simp
  change Code.wp _ _ _ _ (w.alloc (.cells #[.int .i64 0, .slice none 0 0] 35))
  change BlkAt (w.alloc (.cells #[.int .i64 0, .slice none 0 0] 35)) _ _ _ at hD
  generalize w.alloc (.cells #[.int .i64 0, .slice none 0 0] 35) = w0 at *
  generalize hDD : w.heap.size = D at hD hsz hbl ⊢
  have hDw : w.heap.size ≤ D := Nat.le_of_eq hDD
  clear hDD
  have hDb : D ≠ b := by omega
  go_wp2_with fail
  refine (ccount_at (by exact hR) hl H1.out).mono ?_
  rintro en w1 ⟨rfl, hR, hg1⟩
  have hD := hD.grown hg1 hDb
  have hg := hg.trans hg1
  have hsz : D + 1 ≤ w1.heap.size := by have := hg1.size; omega
  clear hg1
  have d0 : w1.cell? ⟨D, 0, none⟩ = some (.int .i64 0) := hD.cell rfl
  have hf := hD.free 0
  go_upto_region 2 with (fail)
  have hD := hD.set 0 (.int .i64 n1)
  have hR := hR.grown (grown_setCell w1 D 0 (.int .i64 n1)) hDb.symm
  have hg := grown_far hg (grown_setCell w1 D 0 (.int .i64 n1)) hDw
  have hsz : D + 1 ≤ (w1.setCell ⟨D, 0, none⟩ (.int .i64 n1)).heap.size := by simpa [World.setCell] using hsz
  change Code.wp _ _ _ _ (w1.setCell ⟨D, 0, none⟩ (.int .i64 n1))
  change BlkAt _ D 35 [.int .i64 n1, .slice none 0 0] at hD
  generalize w1.setCell ⟨D, 0, none⟩ (.int .i64 n1) = w2 at *
  clear d0 hf
  go_wp2_with fail
  refine (ccount_at (by exact hR) (by omega) H2.out).mono ?_
  rintro en w3 ⟨rfl, hR, hg1⟩
  have hD := hD.grown hg1 hDb
  have hg := hg.trans hg1
  have hsz : D + 1 ≤ w3.heap.size := by have := hg1.size; omega
  clear hg1
  by_cases hn8 : 8 < n2
  · rw [if_pos hn8] at HT
    have hn8' : (8 : Int) < (n2 : Int) := by omega
    clear hn8
    go_wp2_with fail
    refine (fail_any hR).mono ?_
    rintro en w4 ⟨rfl, hR, hg1⟩
    have hD := hD.grown hg1 hDb
    have hg := hg.trans hg1
    have d0 : w4.cell? ⟨D, 0, none⟩ = some (.int .i64 n1) := hD.cell rfl
    have d1 : w4.cell? ⟨D, 1, none⟩ = some (.slice none 0 0) := hD.cell rfl
    have hf := hD.free
    clear hg1
    go_wp2_with fail
    have hE := (hD.set 0 (.int .i64 0)).set 1 (.slice none 0 0)
    have hR := (hR.grown (grown_setCell w4 D 0 (.int .i64 0)) hDb.symm).grown (grown_setCell _ D 1 (.slice none 0 0)) hDb.symm
    have hg := grown_far (grown_far hg (grown_setCell w4 D 0 (.int .i64 0)) hDw) (grown_setCell _ D 1 (.slice none 0 0)) hDw
    change BlkAt _ D 35 [.int .i64 0, .slice none 0 0] at hE
    change bodyPost _ _ _ _ _ ((w4.setCell ⟨D, 0, none⟩ (.int .i64 0)).setCell ⟨D, 1, none⟩ (.slice none 0 0))
    generalize (w4.setCell ⟨D, 0, none⟩ (.int .i64 0)).setCell ⟨D, 1, none⟩ (.slice none 0 0) = w9 at *
    clear d0 d1
    have d0 := hE.cell (i := 0) rfl
    have d1 := hE.cell (i := 1) rfl
    have HT := HT.out
    simp only [Prod.mk.injEq] at HT
    obtain ⟨rfl, rfl, rfl⟩ := HT
    exact bodyPost_ret (v := .agg #[.int .i64 0, .slice none 0 0]) (by simp [results, Tryz.results62, go_sem, d0, d1] <;> rfl) rfl ⟨_, rfl, ChainFromS.nil _ _, hR, hg⟩
  · rw [if_neg hn8] at HT
    have hn8' : ¬ (8 : Int) < (n2 : Int) := by omega
    go_wp2_with fail
    go_loopw [17] (fun i wr => ∃ (k : Nat) (v : Value), k ≤ n2 ∧ i = .int .i64 k ∧ BlkAt wr D 35 [.int .i64 n1, v] ∧ wr.ownsRow (D + 1) 49 3 v k (seatsCells (takeN k l2 e2).1) ∧ RdAt wr b (takeN k l2 e2).2.1 (takeN k l2 e2).2.2 ∧ w.grownBy wr (some b) ∧ D + 1 ≤ wr.heap.size) (fun i _ => n2 - (intOf i).toNat)
    case atStart => exact ⟨0, .slice none 0 0, Nat.zero_le _, rfl, hD, World.ownsRow_nil _ _ _ _, hR, hg, hsz⟩
    case round =>
      obtain ⟨k, v, hk, rfl, hD, hown, hR, hg, hsz⟩ := hrel
      have hll := takeN_len k l2 e2
      by_cases hlt : k < n2
      · have HN := Lib.hid (show takeN (k + 1) l2 e2 = ((takeN k l2 e2).1 ++ [(seat1 (takeN k l2 e2).2.1 (takeN k l2 e2).2.2).1], (seat1 (takeN k l2 e2).2.1 (takeN k l2 e2).2.2).2) from rfl)
        obtain ⟨P, q, x, hP⟩ : ∃ P q x, takeN k l2 e2 = (P, q, x) := ⟨_, _, _, rfl⟩
        rw [hP] at hown hR hll HN
        simp only at hown hR hll HN
        obtain ⟨m1, q1, x1, hm1⟩ : ∃ m1 q1 x1, cntC q x = (m1, q1, x1) := ⟨_, _, _, rfl⟩
        obtain ⟨m2, q2, x2, hm2⟩ : ∃ m2 q2 x2, cntC q1 x1 = (m2, q2, x2) := ⟨_, _, _, rfl⟩
        obtain ⟨m3, q3, x3, hm3⟩ : ∃ m3 q3 x3, rdB q2 x2 = (m3, q3, x3) := ⟨_, _, _, rfl⟩
        have hs1 := seat1_of hm1 hm2 hm3
        rw [hs1] at HN
        have hq1 := cntC_len q x
        rw [hm1] at hq1
        have hq2 := cntC_len q1 x1
        rw [hm2] at hq2
        simp only at HN hq1 hq2
        have HM1 := Lib.hid hm1
        have HM2 := Lib.hid hm2
        have HM3 := Lib.hid hm3
        clear hm1 hm2 hm3 hs1 hP
        go_wp2_with fail
        refine (ccount_at (by exact hR) (by omega) HM1.out).mono ?_
        rintro en w4 ⟨rfl, hR, hg1⟩
        have hD := hD.grown hg1 hDb
        have hown := own_far hown hg1 (by omega)
        have hg := hg.trans hg1
        have hsz : D + 1 ≤ w4.heap.size := by have := hg1.size; omega
        clear hg1
        go_wp2_with fail
        refine (ccount_at (by exact hR) (by omega) HM2.out).mono ?_
        rintro en w5 ⟨rfl, hR, hg1⟩
        have hD := hD.grown hg1 hDb
        have hown := own_far hown hg1 (by omega)
        have hg := hg.trans hg1
        have hsz : D + 1 ≤ w5.heap.size := by have := hg1.size; omega
        clear hg1
        go_upto_region 9 with (fail)
        have hSn : some w5.heap.size ≠ v.ownBlock := fun he => by have := (hown.lt _ he.symm).2; omega
        have hS := BlkAt.new w5 49 [.int .i64 m1, .int .i64 m2, .bool false]
        have hD := hD.alloc (.cells #[.int .i64 m1, .int .i64 m2, .bool false] 49)
        have hR := hR.alloc (.cells #[.int .i64 m1, .int .i64 m2, .bool false] 49)
        have hown := hown.alloc (.cells #[.int .i64 m1, .int .i64 m2, .bool false] 49)
        have hg := grown_alloc hg (.cells #[.int .i64 m1, .int .i64 m2, .bool false] 49)
        have hszq : D + 1 ≤ (w5.alloc (.cells #[.int .i64 m1, .int .i64 m2, .bool false] 49)).heap.size := by simp; omega
        have hSD : D ≠ w5.heap.size := by omega
        have hSb : w5.heap.size ≠ b := by omega
        have hSw : w.heap.size ≤ w5.heap.size := by omega
        clear hsz
        have hsz := hszq
        clear hszq
        change Code.wp _ _ _ _ (w5.alloc (.cells #[.int .i64 m1, .int .i64 m2, .bool false] 49))
        generalize w5.alloc (.cells #[.int .i64 m1, .int .i64 m2, .bool false] 49) = w6 at *
        generalize w5.heap.size = S at *
        go_wp2_with fail
        refine (rbyte_at (by exact hR) (by omega) HM3.out).mono ?_
        rintro en w7 ⟨rfl, hR, hg1⟩
        have hD := hD.grown hg1 hDb
        have hS := hS.grown hg1 hSb
        have hown := own_far hown hg1 (by omega)
        have hg := hg.trans hg1
        have hszq : D + 1 ≤ w7.heap.size := by have := hg1.size; omega
        clear hg1 hsz
        have hsz := hszq
        clear hszq
        obtain ⟨q5, hq5⟩ : ∃ q5, q5 = decide (m3 = 1) := ⟨_, rfl⟩
        have hqq : ((m3 : Int) == 1) = q5 := by rw [hq5, Bool.eq_iff_iff]; simp; omega
        rw [← hq5] at HN
        clear hq5
        by_cases hm : 1 < m3
        · have hm' : (1 : Int) < (m3 : Int) := by omega
          rw [if_pos hm] at HN
          have HQ := Lib.hid hqq
          clear hm hqq
          go_wp2_with fail
          refine (fail_any hR).mono ?_
          rintro en w7b ⟨rfl, hR, hg1⟩
          have hD := hD.grown hg1 hDb
          have hS := hS.grown hg1 hSb
          have hown := own_far hown hg1 (by omega)
          have hg := hg.trans hg1
          have hszq : D + 1 ≤ w7b.heap.size := by have := hg1.size; omega
          clear hg1 hsz
          have hsz := hszq
          clear hszq
          have hqq := HQ.out
          have s2 : w7b.cell? ⟨S, 2, none⟩ = some (.bool false) := hS.cell rfl
          have hf := hS.free 2
          go_upto_region 13 with (fail)
          have hS := hS.set 2 (.bool q5)
          have hD := hD.grown (grown_setCell w7b S 2 (.bool q5)) hSD
          have hR := hR.grown (grown_setCell w7b S 2 (.bool q5)) hSb.symm
          have hown := own_farN hown (grown_setCell w7b S 2 (.bool q5)) hSn
          have hg := grown_far hg (grown_setCell w7b S 2 (.bool q5)) hSw
          have hszq : D + 1 ≤ (w7b.setCell ⟨S, 2, none⟩ (.bool q5)).heap.size := by simpa [World.setCell] using hsz
          clear hsz
          have hsz := hszq
          clear hszq
          change Code.wp _ _ _ _ (w7b.setCell ⟨S, 2, none⟩ (.bool q5))
          change BlkAt _ S 49 (seatCells ⟨m1, m2, q5⟩) at hS
          generalize w7b.setCell ⟨S, 2, none⟩ (.bool q5) = w8 at *
          clear s2 hf
          have s0 : w8.cell? ⟨S, 0, none⟩ = some (.int .i64 m1) := hS.cell rfl
          have s1 : w8.cell? ⟨S, 1, none⟩ = some (.int .i64 m2) := hS.cell rfl
          have s2 : w8.cell? ⟨S, 2, none⟩ = some (.bool q5) := hS.cell rfl
          have d1 : w8.cell? ⟨D, 1, none⟩ = some v := hD.cell rfl
          go_wp2_with (at_builtin; refine wpList_append_lies _ rfl (.tmp 35) (.tmp 37) 33 rfl (D + 1) 49 i0 _ 3 24 Tryz.underlying33 hi0 hz0 hz1 hz2 rfl (by omega) _ _ _ rfl (hown.alloc _) ⟨w8.heap.size, 0, none⟩ 1 1 (seatCells ⟨m1, m2, q5⟩) rfl rfl ?c1 ?c2 (by omega) ?c3 ?c4 ?c5 (w8.heap.size + 1) (by simp) ?_)
          case c1 => first | exact World.news_of_block (heap_alloc_new _ _) | exact fun _ _ h => h
          case c2 => exact seatCells_one
          case c3 => unfold maxLen; omega
          case c4 => omega
          case c5 => first | omega | (simp; omega)
          intro g' cap' w' hown' hg' hat' hlt'
          have hneD := own_ne hown (D := D) (by omega)
          have hDl := hD.lt
          have hRl := hR.lt
          have hD2 : BlkAt w' D 35 [.int .i64 n1, v] := (hg'.block _ (by simp; omega) hneD).trans (hD.alloc (.cells (seatCells ⟨m1, m2, q5⟩).toArray 49))
          have hneb := own_ne hown (D := b) (by omega)
          have hR2 : RdAt w' b q3 (fst_ x3 3) := (hg'.block _ (by simp; omega) hneb).trans (hR.alloc (.cells (seatCells ⟨m1, m2, q5⟩).toArray 49))
          have hgw : w.grownBy w' (some b) := grown_own (grown_alloc hg (.cells (seatCells ⟨m1, m2, q5⟩).toArray 49)) hg' (fun j hj => by have := (hown.lt j hj).1; omega)
          have hsz2 : D + 1 ≤ w'.heap.size := by have := hg'.size; simp at this; omega
          clear hg' hat' hD hR hown hg hsz s0 s1 s2 d1 hS
          have d1 : w'.cell? ⟨D, 1, none⟩ = some v := hD2.cell rfl
          have hf := hD2.free 1
          go_wp2_with fail
          go_roundw
          case rel => exact ⟨k + 1, _, by omega, by go_num, hD2.set 1 _, by rw [HN.out, seatsCells_snoc]; exact own_set hown' (by omega), by rw [HN.out]; exact hR2.grown (grown_setCell w' D 1 _) hDb.symm, grown_far hgw (grown_setCell w' D 1 _) hDw, by simp [World.setCell]; omega⟩
          case measure => simp [intOf]; omega
        · have hm' : ¬ (1 : Int) < (m3 : Int) := by omega
          rw [if_neg hm] at HN
          have s2 : w7.cell? ⟨S, 2, none⟩ = some (.bool false) := hS.cell rfl
          have hf := hS.free 2
          clear hm
          go_upto_region 13 with (fail)
          have hS := hS.set 2 (.bool q5)
          have hD := hD.grown (grown_setCell w7 S 2 (.bool q5)) hSD
          have hR := hR.grown (grown_setCell w7 S 2 (.bool q5)) hSb.symm
          have hown := own_farN hown (grown_setCell w7 S 2 (.bool q5)) hSn
          have hg := grown_far hg (grown_setCell w7 S 2 (.bool q5)) hSw
          have hszq : D + 1 ≤ (w7.setCell ⟨S, 2, none⟩ (.bool q5)).heap.size := by simpa [World.setCell] using hsz
          clear hsz
          have hsz := hszq
          clear hszq
          change Code.wp _ _ _ _ (w7.setCell ⟨S, 2, none⟩ (.bool q5))
          change BlkAt _ S 49 (seatCells ⟨m1, m2, q5⟩) at hS
          generalize w7.setCell ⟨S, 2, none⟩ (.bool q5) = w8 at *
          clear s2 hf
          have s0 : w8.cell? ⟨S, 0, none⟩ = some (.int .i64 m1) := hS.cell rfl
          have s1 : w8.cell? ⟨S, 1, none⟩ = some (.int .i64 m2) := hS.cell rfl
          have s2 : w8.cell? ⟨S, 2, none⟩ = some (.bool q5) := hS.cell rfl
          have d1 : w8.cell? ⟨D, 1, none⟩ = some v := hD.cell rfl
          go_wp2_with (at_builtin; refine wpList_append_lies _ rfl (.tmp 35) (.tmp 37) 33 rfl (D + 1) 49 i0 _ 3 24 Tryz.underlying33 hi0 hz0 hz1 hz2 rfl (by omega) _ _ _ rfl (hown.alloc _) ⟨w8.heap.size, 0, none⟩ 1 1 (seatCells ⟨m1, m2, q5⟩) rfl rfl ?c1 ?c2 (by omega) ?c3 ?c4 ?c5 (w8.heap.size + 1) (by simp) ?_)
          case c1 => first | exact World.news_of_block (heap_alloc_new _ _) | exact fun _ _ h => h
          case c2 => exact seatCells_one
          case c3 => unfold maxLen; omega
          case c4 => omega
          case c5 => first | omega | (simp; omega)
          intro g' cap' w' hown' hg' hat' hlt'
          have hneD := own_ne hown (D := D) (by omega)
          have hDl := hD.lt
          have hRl := hR.lt
          have hD2 : BlkAt w' D 35 [.int .i64 n1, v] := (hg'.block _ (by simp; omega) hneD).trans (hD.alloc (.cells (seatCells ⟨m1, m2, q5⟩).toArray 49))
          have hneb := own_ne hown (D := b) (by omega)
          have hR2 : RdAt w' b q3 x3 := (hg'.block _ (by simp; omega) hneb).trans (hR.alloc (.cells (seatCells ⟨m1, m2, q5⟩).toArray 49))
          have hgw : w.grownBy w' (some b) := grown_own (grown_alloc hg (.cells (seatCells ⟨m1, m2, q5⟩).toArray 49)) hg' (fun j hj => by have := (hown.lt j hj).1; omega)
          have hsz2 : D + 1 ≤ w'.heap.size := by have := hg'.size; simp at this; omega
          clear hg' hat' hD hR hown hg hsz s0 s1 s2 d1 hS
          have d1 : w'.cell? ⟨D, 1, none⟩ = some v := hD2.cell rfl
          have hf := hD2.free 1
          go_wp2_with fail
          go_roundw
          case rel => exact ⟨k + 1, _, by omega, by go_num, hD2.set 1 _, by rw [HN.out, seatsCells_snoc]; exact own_set hown' (by omega), by rw [HN.out]; exact hR2.grown (grown_setCell w' D 1 _) hDb.symm, grown_far hgw (grown_setCell w' D 1 _) hDw, by simp [World.setCell]; omega⟩
          case measure => simp [intOf]; omega
      · obtain rfl : k = n2 := by omega
        rw [H3.out] at hown hR
        simp only at hown hR
        have hlo := hll.2
        rw [H3.out] at hlo
        simp only at hlo
        subst hlo
        have hok := takeN_ok L.length l2 e2
        rw [H3.out] at hok
        simp only at hok
        have hcv := chain_of_own hown hok
        have HOK := Lib.hid hok
        clear hok hll
        obtain ⟨A, capv, rfl⟩ := own_form hown
        have d0 : wr.cell? ⟨D, 0, none⟩ = some (.int .i64 n1) := hD.cell rfl
        have d1 : wr.cell? ⟨D, 1, none⟩ = some (.slice A L.length capv) := hD.cell rfl
        go_wp2_with fail
        refine (cright_any (by exact hcv) n1).mono ?_
        rintro en w4 ⟨rfl, b4⟩
        have hD := hD.below b4
        have hR := hR.below b4
        have hown := own_below hown b4
        have hg := hg.trans (below_any' (row := some b) b4)
        clear b4 d0 d1 hsz hcv
        cases hr : rightC ⟨n1, L⟩ with
        | false =>
          rw [hr] at HT
          have HT := Lib.hid (show ((confZero : ConfV), l3, fstE e3 3) = (c, l', e') by
            have := HT.out
            simp only [Bool.false_eq_true, if_false] at this
            rw [if_neg (fstE_ne (by decide))] at this
            exact this)
          have hne : ¬ fstE e3 3 = 0 := fstE_ne (by decide)
          have hnb : (fstE e3 3 != 0) = true := by simpa using hne
          clear hr
          go_wp2_with fail
          refine (fail_any hR).mono ?_
          rintro en w5 ⟨rfl, hR, hg1⟩
          have hD := hD.grown hg1 hDb
          have hg := hg.trans hg1
          rw [fst_E] at hR
          generalize fstE e3 3 = x at *
          clear hg1
          go_wp2_with fail
          refine (err_any hR).mono ?_
          rintro en w6 ⟨rfl, rfl⟩
          have d0 : w5.cell? ⟨D, 0, none⟩ = some (.int .i64 n1) := hD.cell rfl
          have d1 : w5.cell? ⟨D, 1, none⟩ = some (.slice A L.length capv) := hD.cell rfl
          have hf := hD.free
          clear hown
          go_wp2_with fail
          have hE := (hD.set 0 (.int .i64 0)).set 1 (.slice none 0 0)
          have hR := (hR.grown (grown_setCell w5 D 0 (.int .i64 0)) hDb.symm).grown (grown_setCell _ D 1 (.slice none 0 0)) hDb.symm
          have hg := grown_far (grown_far hg (grown_setCell w5 D 0 (.int .i64 0)) hDw) (grown_setCell _ D 1 (.slice none 0 0)) hDw
          change BlkAt _ D 35 [.int .i64 0, .slice none 0 0] at hE
          change bodyPost _ _ _ _ _ ((w5.setCell ⟨D, 0, none⟩ (.int .i64 0)).setCell ⟨D, 1, none⟩ (.slice none 0 0))
          generalize (w5.setCell ⟨D, 0, none⟩ (.int .i64 0)).setCell ⟨D, 1, none⟩ (.slice none 0 0) = w9 at *
          clear d0 d1
          have d0 := hE.cell (i := 0) rfl
          have d1 := hE.cell (i := 1) rfl
          have HT := HT.out
          simp only [Prod.mk.injEq] at HT
          obtain ⟨rfl, rfl, rfl⟩ := HT
          exact bodyPost_ret (v := .agg #[.int .i64 0, .slice none 0 0]) (by simp [results, Tryz.results62, go_sem, d0, d1] <;> rfl) rfl ⟨_, rfl, ChainFromS.nil _ _, hR, hg⟩
        | true =>
          rw [hr] at HT
          simp only [if_true] at HT
          clear hr
          by_cases h3 : e3 = 0
          · subst h3
            have HT := Lib.hid (show ((⟨n1, L⟩ : ConfV), l3, (0 : Int)) = (c, l', e') by
              have := HT.out
              rwa [if_pos rfl] at this)
            go_wp2_with fail
            refine (err_any hR).mono ?_
            rintro en w6 ⟨rfl, rfl⟩
            have d0 : w4.cell? ⟨D, 0, none⟩ = some (.int .i64 n1) := hD.cell rfl
            have d1 : w4.cell? ⟨D, 1, none⟩ = some (.slice A L.length capv) := hD.cell rfl
            have hf := hD.free
            have hoE := own_set (D := D) (i := 1) (u := .slice A L.length capv) (own_set (D := D) (i := 0) (u := .int .i64 n1) hown (by omega)) (by omega)
            go_wp2_with fail
            have hE := (hD.set 0 (.int .i64 n1)).set 1 (.slice A L.length capv)
            have hR := (hR.grown (grown_setCell w4 D 0 (.int .i64 n1)) hDb.symm).grown (grown_setCell _ D 1 (.slice A L.length capv)) hDb.symm
            have hg := grown_far (grown_far hg (grown_setCell w4 D 0 (.int .i64 n1)) hDw) (grown_setCell _ D 1 (.slice A L.length capv)) hDw
            change BlkAt _ D 35 [.int .i64 n1, .slice A L.length capv] at hE
            change bodyPost _ _ _ _ _ ((w4.setCell ⟨D, 0, none⟩ (.int .i64 n1)).setCell ⟨D, 1, none⟩ (.slice A L.length capv))
            generalize (w4.setCell ⟨D, 0, none⟩ (.int .i64 n1)).setCell ⟨D, 1, none⟩ (.slice A L.length capv) = w9 at *
            clear d0 d1
            have d0 := hE.cell (i := 0) rfl
            have d1 := hE.cell (i := 1) rfl
            have HT := HT.out
            simp only [Prod.mk.injEq] at HT
            obtain ⟨rfl, rfl, rfl⟩ := HT
            exact bodyPost_ret (v := .agg #[.int .i64 n1, .slice A L.length capv]) (by simp [results, Tryz.results62, go_sem, d0, d1] <;> rfl) rfl ⟨_, rfl, ChainFromS.own hoE HOK.out (by omega), hR, hg⟩
          · have hnb : (e3 != 0) = true := by simpa using h3
            have HT := Lib.hid (show ((confZero : ConfV), l3, e3) = (c, l', e') by
              have := HT.out
              rwa [if_neg h3] at this)
            go_wp2_with fail
            refine (err_any hR).mono ?_
            rintro en w6 ⟨rfl, rfl⟩
            have d0 : w4.cell? ⟨D, 0, none⟩ = some (.int .i64 n1) := hD.cell rfl
            have d1 : w4.cell? ⟨D, 1, none⟩ = some (.slice A L.length capv) := hD.cell rfl
            have hf := hD.free
            clear hown
            go_wp2_with fail
            have hE := (hD.set 0 (.int .i64 0)).set 1 (.slice none 0 0)
            have hR := (hR.grown (grown_setCell w4 D 0 (.int .i64 0)) hDb.symm).grown (grown_setCell _ D 1 (.slice none 0 0)) hDb.symm
            have hg := grown_far (grown_far hg (grown_setCell w4 D 0 (.int .i64 0)) hDw) (grown_setCell _ D 1 (.slice none 0 0)) hDw
            change BlkAt _ D 35 [.int .i64 0, .slice none 0 0] at hE
            change bodyPost _ _ _ _ _ ((w4.setCell ⟨D, 0, none⟩ (.int .i64 0)).setCell ⟨D, 1, none⟩ (.slice none 0 0))
            generalize (w4.setCell ⟨D, 0, none⟩ (.int .i64 0)).setCell ⟨D, 1, none⟩ (.slice none 0 0) = w9 at *
            clear d0 d1
            have d0 := hE.cell (i := 0) rfl
            have d1 := hE.cell (i := 1) rfl
            have HT := HT.out
            simp only [Prod.mk.injEq] at HT
            obtain ⟨rfl, rfl, rfl⟩ := HT
            exact bodyPost_ret (v := .agg #[.int .i64 0, .slice none 0 0]) (by simp [results, Tryz.results62, go_sem, d0, d1] <;> rfl) rfl ⟨_, rfl, ChainFromS.nil _ _, hR, hg⟩
theorem ctake_own {w : World} {b : Nat} {l l' : List UInt8} {e e' : Int} {c : ConfV} (h : RdAt w b l e) (hl : l.length ≤ 1000000) (hT : takeC l e = (c, l', e')) :
    Calls Tryz.prog 62 #[.pointer (some ⟨b, 0, none⟩)] w fun en w' => ∃ v, en = .returned (.agg #[.int .i64 c.epoch, v]) ∧ ChainFrom w.heap.size w' v c.chain ∧ RdAt w' b l' e' ∧ w.grownBy w' (some b) :=
  (ctake_s h hl hT).mono fun _ _ ⟨v, h1, h2, h3, h4⟩ => ⟨v, h1, h2.1, h3, h4⟩
theorem ctake_at {w : World} {b : Nat} {l l' : List UInt8} {e e' : Int} {c : ConfV} (h : RdAt w b l e) (hl : l.length ≤ 1000000) (hT : takeC l e = (c, l', e')) :
    Calls Tryz.prog 62 #[.pointer (some ⟨b, 0, none⟩)] w fun en w' => ∃ v, en = .returned (.agg #[.int .i64 c.epoch, v]) ∧ ChainAt w' v c.chain ∧ RdAt w' b l' e' ∧ w.grownBy w' (some b) := by
  refine (ctake_own h hl hT).mono ?_
  rintro en w' ⟨v, rfl, hv, h1, h2⟩
  exact ⟨v, rfl, hv.1, h1, h2⟩
end Go.Proofs.YtomfmejodmfioaaGreat
namespace Go.Proofs.YtomfmejodmfioaaGreat
open Go.RowKit Go.ChangeShapes Go.WideShapes Go.Joins
set_option linter.unusedVariables false

/-- An error's number: none, or that of a wrong form. -/
def okErr (b : Bool) : Int := if b = true then 0 else 3
theorem readC_of {l l' : List UInt8} {e' : Int} {c : ConfV} (h : takeC l 0 = (c, l', e')) : readC l = if e' = 0 ∧ l' = [] then (c, true) else (confZero, false) := by rw [readC, h]

set_option maxRecDepth 100000 in
set_option maxHeartbeats 2000000 in

theorem cread_s {l : List UInt8} (hl : l.length ≤ 1000000) {c : ConfV} {ok : Bool} (hr : readC l = (c, ok)) (w : World) :
    Calls Tryz.prog 29 #[.string ⟨l.toArray⟩] w fun en w' => ConfResS w w' en c (.int .i64 (okErr ok)) := by
  obtain ⟨c1, l1, e1, hT⟩ : ∃ c1 l1 e1, takeC l 0 = (c1, l1, e1) := ⟨_, _, _, rfl⟩
  have HR := Lib.hid (readC_of hT)
  have HT := Lib.hid hT
  have HH := Lib.hid hr
  clear hT hr
  go_enter Tryz.func29, Tryz.ntmps29
  go_upto_region 1 with (fail)
  have hD : BlkAt (w.alloc (.cells #[.int .i64 0, .slice none 0 0] 35)) w.heap.size 35 [.int .i64 0, .slice none 0 0] := BlkAt.new w 35 [.int .i64 0, .slice none 0 0]
  have hb : Below w.heap.size w (w.alloc (.cells #[.int .i64 0, .slice none 0 0] 35)) := (Below.refl w.heap.size w).alloc (Nat.le_refl _) _
  have hWs : w.heap.size + 1 ≤ (w.alloc (.cells #[.int .i64 0, .slice none 0 0] 35)).heap.size := by simp
  change Code.wp _ _ _ _ (w.alloc (.cells #[.int .i64 0, .slice none 0 0] 35))
  generalize w.alloc (.cells #[.int .i64 0, .slice none 0 0] 35) = W at *
  generalize hDD : w.heap.size = D at hD
  have hDn : w.heap.size ≤ D := by omega
  have hDl := hD.lt
  go_wp2_with fail
  refine (read_any l _).mono ?_
  rintro en w1 ⟨b, rfl, hR, hbW, b1⟩
  have hD := hD.below b1
  have hDb : D ≠ b := by omega
  have hwb : w.heap.size ≤ b := by omega
  have hb := below_step hb b1
  clear b1 hWs hDl
  go_wp2_with fail
  refine (ctake_s (by exact hR) hl HT.out).mono ?_
  rintro en w2 ⟨v, rfl, ⟨⟨hv, _⟩, hq⟩, hR, hg⟩
  obtain ⟨a, cap, rfl, hs⟩ := hv
  have hv : ChainS w2 (.slice a c1.chain.length cap) c1.chain := ⟨⟨a, cap, rfl, hs⟩, hq⟩
  clear hq
  have hD := hD.grown hg hDb
  have hb := grown_below hb hg hwb
  clear hg hs
  have hbs := hb.size
  go_upto_region 3 with (fail)
  have hX := BlkAt.new w2 35 [.int .i64 c1.epoch, .slice a c1.chain.length cap]
  have hD := hD.alloc (.cells #[.int .i64 c1.epoch, .slice a c1.chain.length cap] 35)
  have hR := hR.alloc (.cells #[.int .i64 c1.epoch, .slice a c1.chain.length cap] 35)
  have hv := hv.alloc (.cells #[.int .i64 c1.epoch, .slice a c1.chain.length cap] 35)
  have hb := hb.alloc hb.size (.cells #[.int .i64 c1.epoch, .slice a c1.chain.length cap] 35)
  have hXs : w2.heap.size + 1 ≤ (w2.alloc (.cells #[.int .i64 c1.epoch, .slice a c1.chain.length cap] 35)).heap.size := by simp
  have hXn : w.heap.size ≤ w2.heap.size := by omega
  change Code.wp _ _ _ _ (w2.alloc (.cells #[.int .i64 c1.epoch, .slice a c1.chain.length cap] 35))
  change BlkAt (w2.alloc (.cells #[.int .i64 c1.epoch, .slice a c1.chain.length cap] 35)) _ _ _ at hX
  generalize w2.alloc (.cells #[.int .i64 c1.epoch, .slice a c1.chain.length cap] 35) = w3 at *
  generalize w2.heap.size = X at *
  clear hbs hXs hXn hDb hwb hbW hDD
  by_cases h0 : e1 = 0
  · subst h0
    go_wp2_with fail
    refine (err_any (by exact hR)).mono ?_
    rintro en w4 ⟨rfl, rfl⟩
    by_cases hq : l1 = []
    · subst hq
      have HE := Lib.hid (show (c, ok) = (c1, true) by rw [← HH.out, HR.out, if_pos (by simp)])
      go_wp2_with fail
      refine (left_any (by exact hR)).mono ?_
      rintro en w4 ⟨rfl, rfl⟩
      have k0 : w3.cell? ⟨X, 0, none⟩ = some (.int .i64 c1.epoch) := hX.cell rfl
      have k1 : w3.cell? ⟨X, 1, none⟩ = some (.slice a c1.chain.length cap) := hX.cell rfl
      have d0 : w3.cell? ⟨D, 0, none⟩ = some (.int .i64 0) := hD.cell rfl
      have d1 : w3.cell? ⟨D, 1, none⟩ = some (.slice none 0 0) := hD.cell rfl
      have hf := hD.free
      have hq0 : leftOf ([] : List UInt8) 0 = 0 := rfl
      have hvE : ChainS _ _ _ := ⟨(hv.1.set2 hD 0 (.int .i64 c1.epoch)).set2 (hD.set 0 (.int .i64 c1.epoch)) 1 (.slice a c1.chain.length cap), (hv.2.setCell D 0 (.int .i64 c1.epoch)).setCell D 1 (.slice a c1.chain.length cap)⟩
      go_wp2_with fail
      have HE := HE.out
      simp only [Prod.mk.injEq] at HE
      obtain ⟨rfl, rfl⟩ := HE
      obtain ⟨hE, hbE⟩ := fin2 (p := .int .i64 c.epoch) (q := .slice a c.chain.length cap) hD hb hDn
      change bodyPost _ _ _ _ _ ((w3.setCell ⟨D, 0, none⟩ (.int .i64 c.epoch)).setCell ⟨D, 1, none⟩ (.slice a c.chain.length cap))
      generalize (w3.setCell ⟨D, 0, none⟩ (.int .i64 c.epoch)).setCell ⟨D, 1, none⟩ (.slice a c.chain.length cap) = W9 at *
      clear d0 d1
      have d0 := hE.cell (i := 0) rfl
      have d1 := hE.cell (i := 1) rfl
      exact bodyPost_ret (v := .tuple #[.agg #[.int .i64 c.epoch, .slice a c.chain.length cap], .int .i64 0]) (by simp [results, Tryz.results29, go_sem, d0, d1] <;> rfl) rfl ⟨_, rfl, hvE, hbE⟩
    · have HE := Lib.hid (show (c, ok) = (confZero, false) by rw [← HH.out, HR.out, if_neg (fun h => hq h.2)])
      go_wp2_with fail
      refine (left_any (by exact hR)).mono ?_
      rintro en w4 ⟨rfl, rfl⟩
      have hq0 : leftOf l1 0 = (l1.length : Int) := rfl
      have hq1 : 0 < l1.length := List.length_pos_iff.2 hq
      have hq2 : (0 : Int) < (l1.length : Int) := by omega
      clear hq hq1
      have d0 : w3.cell? ⟨D, 0, none⟩ = some (.int .i64 0) := hD.cell rfl
      have d1 : w3.cell? ⟨D, 1, none⟩ = some (.slice none 0 0) := hD.cell rfl
      have hf := hD.free
      go_wp2_with fail
      have HE := HE.out
      simp only [Prod.mk.injEq] at HE
      obtain ⟨rfl, rfl⟩ := HE
      obtain ⟨hE, hbE⟩ := fin2 (p := .int .i64 0) (q := .slice none 0 0) hD hb hDn
      change bodyPost _ _ _ _ _ ((w3.setCell ⟨D, 0, none⟩ (.int .i64 0)).setCell ⟨D, 1, none⟩ (.slice none 0 0))
      generalize (w3.setCell ⟨D, 0, none⟩ (.int .i64 0)).setCell ⟨D, 1, none⟩ (.slice none 0 0) = W9 at *
      clear d0 d1
      have d0 := hE.cell (i := 0) rfl
      have d1 := hE.cell (i := 1) rfl
      exact bodyPost_ret (v := .tuple #[.agg #[.int .i64 0, .slice none 0 0], .int .i64 3]) (by simp [results, Tryz.results29, go_sem, d0, d1] <;> rfl) rfl ⟨_, rfl, ChainS.nil _, hbE⟩
  · have HE := Lib.hid (show (c, ok) = (confZero, false) by rw [← HH.out, HR.out, if_neg (fun h => h0 h.1)])
    have h0' : (e1 != 0) = true := by simpa using h0
    go_wp2_with fail
    refine (err_any (by exact hR)).mono ?_
    rintro en w4 ⟨rfl, rfl⟩
    have d0 : w3.cell? ⟨D, 0, none⟩ = some (.int .i64 0) := hD.cell rfl
    have d1 : w3.cell? ⟨D, 1, none⟩ = some (.slice none 0 0) := hD.cell rfl
    have hf := hD.free
    go_wp2_with fail
    have HE := HE.out
    simp only [Prod.mk.injEq] at HE
    obtain ⟨rfl, rfl⟩ := HE
    obtain ⟨hE, hbE⟩ := fin2 (p := .int .i64 0) (q := .slice none 0 0) hD hb hDn
    change bodyPost _ _ _ _ _ ((w3.setCell ⟨D, 0, none⟩ (.int .i64 0)).setCell ⟨D, 1, none⟩ (.slice none 0 0))
    generalize (w3.setCell ⟨D, 0, none⟩ (.int .i64 0)).setCell ⟨D, 1, none⟩ (.slice none 0 0) = W9 at *
    clear d0 d1
    have d0 := hE.cell (i := 0) rfl
    have d1 := hE.cell (i := 1) rfl
    exact bodyPost_ret (v := .tuple #[.agg #[.int .i64 0, .slice none 0 0], .int .i64 3]) (by simp [results, Tryz.results29, go_sem, d0, d1] <;> rfl) rfl ⟨_, rfl, ChainS.nil _, hbE⟩
theorem cread_at {l : List UInt8} (hl : l.length ≤ 1000000) {c : ConfV} {ok : Bool} (hr : readC l = (c, ok)) (w : World) :
    Calls Tryz.prog 29 #[.string ⟨l.toArray⟩] w fun en w' => ConfRes w w' en c (.int .i64 (okErr ok)) := (cread_s hl hr w).mono fun _ _ r => r.res
end Go.Proofs.YtomfmejodmfioaaGreat
namespace Go.Proofs.YtomfmejodmfioaaGreat
open Go.RowKit Go.ChangeShapes Go.WideShapes Go.Joins
set_option linter.unusedVariables false

theorem take_bad {n2 k : Nat} {l2 l3 l' : List UInt8} {e2 e3 e' : Int} {n1 : Nat} {L : List SeatV} {c : ConfV} (h3 : takeN n2 l2 e2 = (L, l3, e3)) (hk : k ≤ n2) (he : (takeN k l2 e2).2.2 ≠ 0)
    (hT : (if (if rightC ⟨n1, L⟩ = true then e3 else fstE e3 3) = 0 then (⟨n1, L⟩ : ConfV) else confZero, l3, if rightC ⟨n1, L⟩ = true then e3 else fstE e3 3) = (c, l', e')) : c = confZero ∧ e' ≠ 0 := by
  have h := takeN_err he (n2 - k)
  rw [show k + (n2 - k) = n2 by omega, h3] at h
  simp only at h
  have hx : (if rightC ⟨n1, L⟩ = true then e3 else fstE e3 3) ≠ 0 := by
    split
    · exact h
    · rw [fstE_keep h]; exact h
  rw [if_neg hx] at hT
  simp only [Prod.mk.injEq] at hT
  exact ⟨hT.1.symm, by rw [← hT.2.2]; exact hx⟩

end Go.Proofs.YtomfmejodmfioaaGreat
namespace Go.Proofs.YtomfmejodmfioaaGreat
open Go.RowKit Go.ChangeShapes Go.WideShapes Go.Joins
set_option linter.unusedVariables false

theorem str_join (a b : List UInt8) : (⟨a.toArray⟩ : ByteArray) ++ ⟨b.toArray⟩ = ⟨(a ++ b).toArray⟩ := by simp [ByteArray.mk_append_mk]

end Go.Proofs.YtomfmejodmfioaaGreat
