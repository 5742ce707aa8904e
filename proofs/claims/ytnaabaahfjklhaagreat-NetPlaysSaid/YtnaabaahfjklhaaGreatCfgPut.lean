/- A chain's bytes: nums, Put, Print. -/
import Derived.Test.YtnaabaahfjklhaaGreatCfgRight
import Derived.Test.YtnaabaahfjklhaaGreatKCfgB
import Derived.Test.YtnaabaahfjklhaaGreatKCfg
import Derived.Test.YtnaabaahfjklhaaGreatKBld
import Derived.Test.YtnaabaahfjklhaaGreatKCodec
namespace Go.Proofs.YtnaabaahfjklhaaGreat
open Go.RowKit Go.ChangeShapes Go.WideShapes Go.Joins
set_option linter.unusedVariables false

/-- Numbers that lie in a row. -/
def NRow (w : World) (a : Nat) (v : List Int) : Prop := ∀ i x, v[i]? = some x → w.cell? ⟨a, i, none⟩ = some (.int .i64 x)
theorem NRow.below {w w' : World} {a n : Nat} {v : List Int} (h : NRow w a v) (ha : a < n) (hb : Below n w w') : NRow w' a v := fun i x hx => (hb.cell (p := ⟨a, i, none⟩) ha).trans (h i x hx)
theorem nrow_new {w : World} {T : TypeId} (x y : Int) : NRow (w.alloc (.cells #[.int .i64 x, .int .i64 y] T)) w.heap.size [x, y] := fun i z hz => by
  have h := BlkAt.new w T [.int .i64 x, .int .i64 y]
  match i, hz with
  | 0, hz => simp at hz; subst hz; exact h.cell rfl
  | 1, hz => simp at hz; subst hz; exact h.cell rfl
theorem encU_snoc {v : List Int} {k : Nat} {x : Int} (h : v[k]? = some x) : encU (v.take (k + 1)) = encU (v.take k) ++ enc (u64 x) := by
  obtain ⟨h1, h2⟩ := List.getElem?_eq_some_iff.1 h
  rw [List.take_succ_eq_append_getElem h1, h2]
  simp [encU]

theorem ret_tuple0 : True := trivial
set_option maxRecDepth 100000 in
set_option maxHeartbeats 1000000 in

theorem nums_any {w : World} {B b a cap : Nat} {l : List UInt8} {x y : Int} (hB : BldAt B b l w) (hBw : B ≤ w.heap.size) (hA : BlkAt w a 3 [.int .i64 x, .int .i64 y]) (hl : l.length ≤ 10000000) :
    Calls Tryz.prog 102 #[.pointer (some ⟨b, 0, none⟩), .slice (some ⟨a, 0, none⟩) 2 cap] w fun e w' => e = .returned (.tuple #[]) ∧ BldAt B b (l ++ encU [x, y]) w' ∧ Below B w w' ∧ TKeep w w' := by
  have hx := u64_wrap x
  have hy := u64_wrap y
  have HX := Lib.hid hx
  have HY := Lib.hid hy
  have e1 := (enc_len (u64 x)).2
  have e2 := (enc_len (u64 y)).2
  clear hx hy
  go_enter Tryz.func102, Tryz.ntmps102
  go_wp2_with fail
  refine wp_loop_rounds 3 ?_
  rw [rounds_succ]
  have a0 : w.cell? ⟨a, 0, none⟩ = some (.int .i64 x) := hA.cell rfl
  have hx := HX.out
  go_wp2_with fail
  refine (cuint_any (u64 x) (u64_fit x) _).mono ?_
  rintro e w1 ⟨rfl, b1⟩
  have hB := hB.below b1
  have hA := hA.below b1
  have k1 := TKeep.below b1
  have hb1 := (Below.refl B w).trans (b1.mono hBw)
  have hBw1 := hb1.size
  clear b1 a0 hx
  go_wp2_with fail
  refine (wstr_k (enc (u64 x)) (by exact hB) (by omega) (by omega)).mono ?_
  rintro e w2 ⟨rfl, hB, b2, k2⟩
  have hA : BlkAt w2 a 3 [.int .i64 x, .int .i64 y] := k2 a 3 _ _ hA (by decide) (by decide)
  have hb2 := hb1.trans b2
  have k2 := k1.trans k2
  have hBw2 := hb2.size
  clear k1 hb1 b2
  go_wp2_with fail
  rw [rounds_succ]
  have a1 : w2.cell? ⟨a, 1, none⟩ = some (.int .i64 y) := hA.cell rfl
  have hy := HY.out
  go_wp2_with fail
  refine (cuint_any (u64 y) (u64_fit y) _).mono ?_
  rintro e w3 ⟨rfl, b3⟩
  have hB := hB.below b3
  have k3 := k2.trans (TKeep.below b3)
  have hb3 := hb2.trans (b3.mono (by omega))
  have hBw3 := hb3.size
  clear b3 a1 hy k2
  go_wp2_with fail
  refine (wstr_k (enc (u64 y)) (by exact hB) (by simp; omega) (by omega)).mono ?_
  rintro e w4 ⟨rfl, hB, b4, k4⟩
  have hb4 := hb3.trans b4
  have k4 := k3.trans k4
  clear k3 b4
  go_wp2_with fail
  rw [rounds_succ]
  go_wp2_with fail
  go_end0
  exact ⟨rfl, by rw [encU_two, ← List.append_assoc]; exact hB, hb4, k4⟩

theorem bld_new {W : World} {b : Nat} (h : BlkAt W b 113 [.pointer none, .slice none 0 0]) : BldAt b b [] W :=
  .inl ⟨Nat.le_refl _, .slice none 0 0, h, World.ownsRow_nil _ _ _ _, by simp [Value.ownBlock]⟩
theorem BldAt.alloc {B b : Nat} {l : List UInt8} {w : World} (h : BldAt B b l w) (o : Obj) : BldAt B b l (w.alloc o) := h.below ((Below.refl _ _).alloc (Nat.le_refl _) _)
theorem below_low {n B : Nat} {w w1 w2 : World} (h : Below n w w1) (g : Below B w1 w2) (hn : n ≤ B) : Below n w w2 := h.trans (g.mono hn)

set_option maxRecDepth 100000 in
set_option maxHeartbeats 2000000 in

theorem cput_any {w : World} {v : Value} {L : List SeatV} (hv : ChainAt w v L) (e : Int) (hl : L.length ≤ 100000) :
    Calls Tryz.prog 94 #[.agg #[.int .i64 e, v]] w fun en w' => en = .returned (.string ⟨(encConf ⟨e, L⟩).toArray⟩) ∧ Below w.heap.size w w' := by
  obtain ⟨a, cap, rfl, hs⟩ := hv
  have hv : ChainAt w (.slice a L.length cap) L := ⟨a, cap, rfl, hs⟩
  have hLok := hs.2.1
  have hlen := hs.1
  unfold maxLen at hlen
  go_enter Tryz.func94, Tryz.ntmps94
  go_upto_region 2 with (fail)
  have hC : BlkAt ((w.alloc (.cells #[.int .i64 e, .slice a L.length cap] 37)).alloc (.cells #[.pointer none, .slice none 0 0] 113)) w.heap.size 37 [.int .i64 e, .slice a L.length cap] := (BlkAt.new w 37 [.int .i64 e, .slice a L.length cap]).alloc _
  have hE : BlkAt ((w.alloc (.cells #[.int .i64 e, .slice a L.length cap] 37)).alloc (.cells #[.pointer none, .slice none 0 0] 113)) (w.heap.size + 1) 113 [.pointer none, .slice none 0 0] := BlkAt.newAt (by simp) 113 [.pointer none, .slice none 0 0]
  have hb : Below w.heap.size w ((w.alloc (.cells #[.int .i64 e, .slice a L.length cap] 37)).alloc (.cells #[.pointer none, .slice none 0 0] 113)) := ((Below.refl w.heap.size w).alloc (Nat.le_refl _) _).alloc (by simp) _
  have hWs : w.heap.size + 2 ≤ ((w.alloc (.cells #[.int .i64 e, .slice a L.length cap] 37)).alloc (.cells #[.pointer none, .slice none 0 0] 113)).heap.size := by simp
  change Code.wp _ _ _ _ ((w.alloc (.cells #[.int .i64 e, .slice a L.length cap] 37)).alloc (.cells #[.pointer none, .slice none 0 0] 113))
  generalize (w.alloc (.cells #[.int .i64 e, .slice a L.length cap] 37)).alloc (.cells #[.pointer none, .slice none 0 0] 113) = W at *
  have hbn : w.heap.size ≤ w.heap.size + 1 := by omega
  have hbb : w.heap.size + 1 < w.heap.size + 2 := by omega
  have hb0 : w.heap.size + 1 ≠ w.heap.size := by omega
  generalize hbd : w.heap.size + 1 = b at *
  have hB := bld_new hE
  have hN := BlkAt.new W 3 [.int .i64 e, .int .i64 (L.length : Int)]
  have hl0 := encU_len [e, (L.length : Int)]
  have hl0 : (encU [e, (L.length : Int)]).length ≤ 20 := hl0
  clear hE
  have c0 : W.cell? ⟨w.heap.size, 0, none⟩ = some (.int .i64 e) := hC.cell rfl
  have c1 : W.cell? ⟨w.heap.size, 1, none⟩ = some (.slice a L.length cap) := hC.cell rfl
  go_wp2_with fail
  refine (nums_any (l := []) (by exact hB.alloc _) (by simp; omega) (by exact hN) (by simp)).mono ?_
  rintro en w2 ⟨rfl, hB, b2, k2⟩
  have hC : BlkAt w2 w.heap.size 37 [.int .i64 e, .slice a L.length cap] := (hC.alloc _).belowAt b2 (by omega)
  have hb := below_low (hb.alloc hb.size _) b2 (by omega)
  have hsz : b ≤ w2.heap.size := by have := b2.size; simp at this; omega
  rw [List.nil_append] at hB
  clear hN b2 k2 c0 c1 hWs
  have c1 : w2.cell? ⟨w.heap.size, 1, none⟩ = some (.slice a L.length cap) := hC.cell rfl
  go_wp2_with fail
  clear c1
  go_loopw [19] (fun i wr => ∃ k : Nat, k ≤ L.length ∧ i = .int .i64 k ∧ BldAt b b (encU [e, (L.length : Int)] ++ encSeats (L.take k)) wr ∧ Below w.heap.size w wr ∧ b ≤ wr.heap.size) (fun i _ => L.length - (intOf i).toNat)
  case atStart => exact ⟨0, Nat.zero_le _, rfl, by simpa [encSeats] using hB, hb, hsz⟩
  case round =>
    obtain ⟨k, hk, rfl, hB, hb, hsz⟩ := hrel
    have hl1 := encSeats_len (L.take k)
    rw [List.length_take] at hl1
    by_cases hlt : k < L.length
    · obtain ⟨bs, off, rfl, hab, hc⟩ := hs.2.2 (by omega)
      obtain ⟨s, hs'⟩ : ∃ s, L[k]? = some s := ⟨_, List.getElem?_eq_getElem hlt⟩
      obtain ⟨s0, s1, s2⟩ := (hc k s hs').of (w' := wr) fun j => hb.cell (p := ⟨bs, j, none⟩) hab
      have HT := Lib.hid (show encU [e, (L.length : Int)] ++ encSeats (L.take (k + 1)) = encU [e, (L.length : Int)] ++ encSeats (L.take k) ++ encU [s.node, s.life] ++ [flagB s.sync] by rw [take_snoc hs', encSeats_snoc, encSeat]; simp)
      obtain ⟨x, y, z⟩ := s
      simp only at s0 s1 s2 HT
      have hl2 : (encU [x, y]).length ≤ 20 := encU_len [x, y]
      have hHs := Lib.hid hs
      clear hc hs' hs hv
      go_upto_region 6 with (fail)
      have hS := BlkAt.new wr 97 [.int .i64 x, .int .i64 y, .bool z]
      have hB := hB.alloc (.cells #[.int .i64 x, .int .i64 y, .bool z] 97)
      have hb := hb.alloc hb.size (.cells #[.int .i64 x, .int .i64 y, .bool z] 97)
      have hsz : b ≤ (wr.alloc (.cells #[.int .i64 x, .int .i64 y, .bool z] 97)).heap.size := by simp; omega
      change Code.wp _ _ _ _ (wr.alloc (.cells #[.int .i64 x, .int .i64 y, .bool z] 97))
      change BlkAt (wr.alloc (.cells #[.int .i64 x, .int .i64 y, .bool z] 97)) _ _ _ at hS
      generalize wr.alloc (.cells #[.int .i64 x, .int .i64 y, .bool z] 97) = w3 at *
      generalize wr.heap.size = S at *
      clear s0 s1 s2
      have hN := BlkAt.new w3 3 [.int .i64 x, .int .i64 y]
      have s0 : w3.cell? ⟨S, 0, none⟩ = some (.int .i64 x) := hS.cell rfl
      have s1 : w3.cell? ⟨S, 1, none⟩ = some (.int .i64 y) := hS.cell rfl
      have hPl : (encU [e, (L.length : Int)] ++ encSeats (L.take k)).length ≤ 4000000 := by rw [List.length_append]; omega
      generalize encU [e, (L.length : Int)] ++ encSeats (L.take k) = P at *
      go_wp2_with fail
      refine (nums_any (by exact hB.alloc _) (by simp; omega) (by exact hN) (by omega)).mono ?_
      rintro en w4 ⟨rfl, hB, b4, k4⟩
      have hS : BlkAt w4 S 97 [.int .i64 x, .int .i64 y, .bool z] := k4 S 97 _ _ (hS.alloc _) (by decide) (by decide)
      have hb := below_low (hb.alloc hb.size _) b4 (by omega)
      have hsz : b ≤ w4.heap.size := by have := b4.size; simp at this; omega
      clear hN b4 k4 s0 s1
      have s2 : w4.cell? ⟨S, 2, none⟩ = some (.bool z) := hS.cell rfl
      cases z with
      | true =>
        go_wp2_with fail
        refine (wbyte_k 1 (by rfl) (by exact hB) (by rw [List.length_append]; omega) hsz).mono ?_
        rintro en w5 ⟨rfl, hB, b5, k5⟩
        have hb := below_low hb b5 (by omega)
        have hsz : b ≤ w5.heap.size := by have := b5.size; omega
        clear s2 hS b5 k5
        go_wp2_with fail
        go_roundw
        case rel => exact ⟨k + 1, by omega, by go_num, by rw [HT.out]; exact hB, hb, hsz⟩
        case measure => simp [intOf]; omega
      | false =>
        go_wp2_with fail
        refine (wbyte_k 0 (by rfl) (by exact hB) (by rw [List.length_append]; omega) hsz).mono ?_
        rintro en w5 ⟨rfl, hB, b5, k5⟩
        have hb := below_low hb b5 (by omega)
        have hsz : b ≤ w5.heap.size := by have := b5.size; omega
        clear s2 hS b5 k5
        go_wp2_with fail
        go_roundw
        case rel => exact ⟨k + 1, by omega, by go_num, by rw [HT.out]; exact hB, hb, hsz⟩
        case measure => simp [intOf]; omega
    · rw [List.take_of_length_le (by omega)] at hB
      go_wp2_with fail
      refine (bstr_any (by exact hB) hsz).mono ?_
      rintro en w3 ⟨rfl, b3⟩
      have hb := below_low hb b3 (by omega)
      go_wp2_with fail
      go_ret
      exact ⟨rfl, hb⟩

/-- What is printed of a chain: its bytes, or none. -/
def printC (c : ConfV) : List UInt8 × Int := if rightC c = true then (encConf c, 0) else ([], 1)
end Go.Proofs.YtnaabaahfjklhaaGreat
