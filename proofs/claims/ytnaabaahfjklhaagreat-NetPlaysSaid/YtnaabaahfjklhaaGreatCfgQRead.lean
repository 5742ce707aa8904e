/- The document's Read and Print. -/
import Derived.Test.YtnaabaahfjklhaaGreatCfgRead
import Derived.Test.YtnaabaahfjklhaaGreatCfgQTake
namespace Go.Proofs.YtnaabaahfjklhaaGreat
open Go.RowKit Go.ChangeShapes Go.WideShapes Go.Joins
set_option linter.unusedVariables false

theorem quint_w (x : Int) (w : World) : Calls Tryz.prog 51 #[.int .u64 (IntKind.u64.wrap x)] w fun e w' => e = .returned (.string ⟨(enc (u64 x)).toArray⟩) ∧ Below w.heap.size w w' := by
  rw [u64_wrap]
  exact quint_any (u64 x) (u64_fit x) w
theorem str_join (a b : List UInt8) : (⟨a.toArray⟩ : ByteArray) ++ ⟨b.toArray⟩ = ⟨(a ++ b).toArray⟩ := by simp [ByteArray.mk_append_mk]

set_option maxRecDepth 100000 in
set_option maxHeartbeats 2000000 in

theorem qcprint_any {w : World} {v : Value} {L : List SeatV} (hv : ChainAt w v L) (e : Int) (hl : L.length ≤ 100000) :
    Calls Tryz.prog 49 #[.agg #[.int .i64 e, v]] w fun en w' => en = .returned (.string ⟨(encConf ⟨e, L⟩).toArray⟩) ∧ Below w.heap.size w w' := by
  obtain ⟨a, cap, rfl, hs⟩ := hv
  have hv : ChainAt w (.slice a L.length cap) L := ⟨a, cap, rfl, hs⟩
  have hLok := hs.2.1
  have hlen := hs.1
  unfold maxLen at hlen
  go_enter Tryz.func49, Tryz.ntmps49
  go_upto_region 1 with (fail)
  have hC : BlkAt (w.alloc (.cells #[.int .i64 e, .slice a L.length cap] 37)) w.heap.size 37 [.int .i64 e, .slice a L.length cap] := BlkAt.new w 37 [.int .i64 e, .slice a L.length cap]
  have hb : Below w.heap.size w (w.alloc (.cells #[.int .i64 e, .slice a L.length cap] 37)) := (Below.refl w.heap.size w).alloc (Nat.le_refl _) _
  have hWs : w.heap.size + 1 ≤ (w.alloc (.cells #[.int .i64 e, .slice a L.length cap] 37)).heap.size := by simp
  change Code.wp _ _ _ _ (w.alloc (.cells #[.int .i64 e, .slice a L.length cap] 37))
  generalize w.alloc (.cells #[.int .i64 e, .slice a L.length cap] 37) = W at *
  have c0 : W.cell? ⟨w.heap.size, 0, none⟩ = some (.int .i64 e) := hC.cell rfl
  have c1 : W.cell? ⟨w.heap.size, 1, none⟩ = some (.slice a L.length cap) := hC.cell rfl
  have e1 := (enc_len (u64 e)).2
  have e2 := (enc_len (u64 (L.length : Int))).2
  have z1 : ¬ 9223372036854775807 < (enc (u64 e)).length + (enc (u64 (L.length : Int))).length := by omega
  have hj := str_join (enc (u64 e)) (enc (u64 (L.length : Int)))
  rw [← encU_two] at hj
  have HJ := Lib.hid hj
  clear hj
  go_region_held (fun w' => w'.cell? ⟨w.heap.size, 0, none⟩ = some (.int .i64 e) ∧ w'.cell? ⟨w.heap.size, 1, none⟩ = some (.slice a L.length cap)) (go_keep)
    ((go_at_call 51; refine (quint_w _ _).mono ?_; rintro en w1 ⟨rfl, b1⟩; have hb : Below w.heap.size w w1 := below_step (by first | exact hb | exact below_drewN hb 1) b1; have hC : BlkAt w1 w.heap.size 37 [.int .i64 e, .slice a L.length cap] := BlkAt.below (by exact hC) b1; have c0 : w1.cell? ⟨w.heap.size, 0, none⟩ = some (.int .i64 e) := hC.cell rfl; have c1 : w1.cell? ⟨w.heap.size, 1, none⟩ = some (.slice a L.length cap) := hC.cell rfl))
  rw [HJ.out]
  have hl0 : (encU [e, (L.length : Int)]).length ≤ 20 := encU_len [e, (L.length : Int)]
  go_wp2_with fail
  clear c0 c1 z1 e1 e2
  go_loopw [3, 4] (fun s i wr => ∃ k : Nat, k ≤ L.length ∧ i = .int .i64 k ∧ s = .string ⟨(encU [e, (L.length : Int)] ++ encSeats (L.take k)).toArray⟩ ∧ BlkAt wr w.heap.size 37 [.int .i64 e, .slice a L.length cap] ∧ Below w.heap.size w wr) (fun _ i _ => L.length - (intOf i).toNat)
  case atStart => exact ⟨0, Nat.zero_le _, rfl, by simp [encSeats], hC, hb⟩
  case round =>
    obtain ⟨k, hk, rfl, rfl, hC, hb⟩ := hrel
    have hl1 : (encSeats (L.take k)).length ≤ 2100000 := by have h1 := encSeats_len (L.take k); have h2 := List.length_take_le k L; omega
    have c1 : wr.cell? ⟨w.heap.size, 1, none⟩ = some (.slice a L.length cap) := hC.cell rfl
    by_cases hlt : k < L.length
    · obtain ⟨bs, off, rfl, hab, hc⟩ := hs.2.2 (by omega)
      obtain ⟨s, hs'⟩ : ∃ s, L[k]? = some s := ⟨_, List.getElem?_eq_getElem hlt⟩
      obtain ⟨s0, s1, s2⟩ := (hc k s hs').of (w' := wr) fun j => hb.cell (p := ⟨bs, j, none⟩) hab
      have HT := Lib.hid (show encU [e, (L.length : Int)] ++ encSeats (L.take (k + 1)) = encU [e, (L.length : Int)] ++ encSeats (L.take k) ++ encU [s.node, s.life] ++ [flagB s.sync] by rw [take_snoc hs', encSeats_snoc, encSeat]; simp)
      obtain ⟨x, y, z⟩ := s
      simp only at s0 s1 s2 HT
      have hHs := Lib.hid hs
      have hPl : (encU [e, (L.length : Int)] ++ encSeats (L.take k)).length ≤ 4000000 := by rw [List.length_append]; omega
      clear hc hs' hs hv
      go_upto_region 6 with (fail)
      have hbs := hb.size
      have hS := BlkAt.new wr 97 [.int .i64 x, .int .i64 y, .bool z]
      have hC := hC.alloc (.cells #[.int .i64 x, .int .i64 y, .bool z] 97)
      have hb := hb.alloc hb.size (.cells #[.int .i64 x, .int .i64 y, .bool z] 97)
      have hSs : wr.heap.size + 1 ≤ (wr.alloc (.cells #[.int .i64 x, .int .i64 y, .bool z] 97)).heap.size := by simp
      have hSn : w.heap.size ≤ wr.heap.size := by omega
      change Code.wp _ _ _ _ (wr.alloc (.cells #[.int .i64 x, .int .i64 y, .bool z] 97))
      change BlkAt (wr.alloc (.cells #[.int .i64 x, .int .i64 y, .bool z] 97)) _ _ _ at hS
      generalize wr.alloc (.cells #[.int .i64 x, .int .i64 y, .bool z] 97) = w3 at *
      generalize wr.heap.size = S at *
      clear s0 s1 s2 c1
      have s0 : w3.cell? ⟨S, 0, none⟩ = some (.int .i64 x) := hS.cell rfl
      have s1 : w3.cell? ⟨S, 1, none⟩ = some (.int .i64 y) := hS.cell rfl
      generalize encU [e, (L.length : Int)] ++ encSeats (L.take k) = P at *
      have e1 := (enc_len (u64 x)).2
      have e2 := (enc_len (u64 y)).2
      have z1 : ¬ 9223372036854775807 < (enc (u64 x)).length + (enc (u64 y)).length := by omega
      have z2 : ¬ 9223372036854775807 < P.length + ((enc (u64 x)).length + (enc (u64 y)).length) := by omega
      have hj := str_join (enc (u64 x)) (enc (u64 y))
      rw [← encU_two] at hj
      have HJ := Lib.hid (show (⟨P.toArray⟩ : ByteArray) ++ (⟨(enc (u64 x)).toArray⟩ ++ ⟨(enc (u64 y)).toArray⟩) = ⟨(P ++ encU [x, y]).toArray⟩ by rw [hj, str_join])
      have hl2 : (encU [x, y]).length ≤ 20 := encU_len [x, y]
      clear hj
      go_region_held (fun w' => w'.cell? ⟨S, 0, none⟩ = some (.int .i64 x) ∧ w'.cell? ⟨S, 1, none⟩ = some (.int .i64 y)) (go_keep)
        ((go_at_call 51; refine (quint_w _ _).mono ?_; rintro en w4 ⟨rfl, b4⟩; have hb : Below w.heap.size w w4 := below_step (by first | exact hb | exact below_drewN hb 1) b4; have hC : BlkAt w4 w.heap.size 37 [.int .i64 e, .slice (some ⟨bs, off, none⟩) L.length cap] := BlkAt.below (by exact hC) b4; have hS : BlkAt w4 S 97 [.int .i64 x, .int .i64 y, .bool z] := BlkAt.below (by exact hS) b4; have s0 : w4.cell? ⟨S, 0, none⟩ = some (.int .i64 x) := hS.cell rfl; have s1 : w4.cell? ⟨S, 1, none⟩ = some (.int .i64 y) := hS.cell rfl))
      rw [HJ.out]
      have hPl2 : (P ++ encU [x, y]).length ≤ 5000000 := by rw [List.length_append]; omega
      generalize P ++ encU [x, y] = P2 at *
      have s2 : w4.cell? ⟨S, 2, none⟩ = some (.bool z) := hS.cell rfl
      clear z1 z2 s0 s1 HJ
      have z3 : ¬ 9223372036854775807 < P2.length + 1 := by omega
      cases z with
      | true =>
        have hj : (⟨P2.toArray⟩ : ByteArray) ++ ⟨#[1]⟩ = ⟨(P2 ++ [flagB true]).toArray⟩ := str_join P2 [1]
        have HJ := Lib.hid hj
        clear hj
        go_wp2_with fail
        go_roundw
        case rel => exact ⟨k + 1, by omega, by go_num, by rw [HJ.out, HT.out], hC, hb⟩
        case measure => simp [intOf]; omega
      | false =>
        have hj : (⟨P2.toArray⟩ : ByteArray) ++ ⟨#[0]⟩ = ⟨(P2 ++ [flagB false]).toArray⟩ := str_join P2 [0]
        have HJ := Lib.hid hj
        clear hj
        go_wp2_with fail
        go_roundw
        case rel => exact ⟨k + 1, by omega, by go_num, by rw [HJ.out, HT.out], hC, hb⟩
        case measure => simp [intOf]; omega
    · rw [List.take_of_length_le (by omega)]
      go_wp2_with fail
      go_ret
      exact ⟨rfl, hb⟩
end Go.Proofs.YtnaabaahfjklhaaGreat
