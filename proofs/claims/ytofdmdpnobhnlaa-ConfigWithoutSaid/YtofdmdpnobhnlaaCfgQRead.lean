/- The document's Read and Print. -/
import Derived.Test.YtofdmdpnobhnlaaCfgRead
import Derived.Test.YtofdmdpnobhnlaaCfgQTake
namespace Go.Proofs.Ytofdmdpnobhnlaa
open Go.RowKit Go.ChangeShapes Go.WideShapes Go.Joins
set_option linter.unusedVariables false

set_option maxRecDepth 100000 in
set_option maxHeartbeats 2000000 in

theorem qcread_at {l : List UInt8} (hl : l.length ≤ 1000000) {c : ConfV} {ok : Bool} (hr : readC l = (c, ok)) (w : World) :
    Calls Try.prog 34 #[.string ⟨l.toArray⟩] w fun en w' => ConfRes w w' en c (.bool ok) := by
  obtain ⟨c1, l1, e1, hT⟩ : ∃ c1 l1 e1, takeC l 0 = (c1, l1, e1) := ⟨_, _, _, rfl⟩
  have HR := Lib.hid (readC_of hT)
  have HT := Lib.hid hT
  have HH := Lib.hid hr
  clear hT hr
  go_enter Try.func34, Try.ntmps34
  go_upto_region 2 with (fail)
  have hD : BlkAt ((w.alloc (.cells #[.int .i64 0, .slice none 0 0] 24)).alloc (.cells #[.string ⟨l.toArray⟩, .int .i64 0, .int .i64 0] 64)) w.heap.size 24 [.int .i64 0, .slice none 0 0] := (BlkAt.new w 24 [.int .i64 0, .slice none 0 0]).alloc _
  have hR0 : BlkAt ((w.alloc (.cells #[.int .i64 0, .slice none 0 0] 24)).alloc (.cells #[.string ⟨l.toArray⟩, .int .i64 0, .int .i64 0] 64)) (w.heap.size + 1) 64 [.string ⟨l.toArray⟩, .int .i64 0, .int .i64 0] := BlkAt.newAt (by simp) 64 [.string ⟨l.toArray⟩, .int .i64 0, .int .i64 0]
  have hb : Below w.heap.size w ((w.alloc (.cells #[.int .i64 0, .slice none 0 0] 24)).alloc (.cells #[.string ⟨l.toArray⟩, .int .i64 0, .int .i64 0] 64)) := ((Below.refl w.heap.size w).alloc (Nat.le_refl _) _).alloc (by simp) _
  change Code.wp _ _ _ _ ((w.alloc (.cells #[.int .i64 0, .slice none 0 0] 24)).alloc (.cells #[.string ⟨l.toArray⟩, .int .i64 0, .int .i64 0] 64))
  generalize (w.alloc (.cells #[.int .i64 0, .slice none 0 0] 24)).alloc (.cells #[.string ⟨l.toArray⟩, .int .i64 0, .int .i64 0] 64) = W at *
  have hR : RfOn W (w.heap.size + 1) l l 0 := ⟨0, Nat.zero_le _, rfl, hR0⟩
  clear hR0
  generalize hBd : w.heap.size + 1 = b at *
  generalize hDD : w.heap.size = D at hD hBd
  have hDn : w.heap.size ≤ D := by omega
  have hDb : D ≠ b := by omega
  have hwb : w.heap.size ≤ b := by omega
  clear hBd hDD
  go_wp2_with fail
  refine (qctake_at (by exact hR) hl HT.out).mono ?_
  rintro en w2 ⟨v, l2, e2, rfl, hv, hR, hk, hg⟩
  obtain ⟨a, cap, rfl, hs⟩ := hv
  have hv : ChainAt w2 (.slice a c1.chain.length cap) c1.chain := ⟨a, cap, rfl, hs⟩
  have hD := hD.grown hg hDb
  have hb := grown_below hb hg hwb
  clear hg hs
  have hbs := hb.size
  have HK := Lib.hid hk
  clear hk
  go_upto_region 3 with (fail)
  have hX := BlkAt.new w2 24 [.int .i64 c1.epoch, .slice a c1.chain.length cap]
  have hD := hD.alloc (.cells #[.int .i64 c1.epoch, .slice a c1.chain.length cap] 24)
  have hR := hR.alloc (.cells #[.int .i64 c1.epoch, .slice a c1.chain.length cap] 24)
  have hv := hv.alloc (.cells #[.int .i64 c1.epoch, .slice a c1.chain.length cap] 24)
  have hb := hb.alloc hb.size (.cells #[.int .i64 c1.epoch, .slice a c1.chain.length cap] 24)
  have hXs : w2.heap.size + 1 ≤ (w2.alloc (.cells #[.int .i64 c1.epoch, .slice a c1.chain.length cap] 24)).heap.size := by simp
  have hXn : w.heap.size ≤ w2.heap.size := by omega
  change Code.wp _ _ _ _ (w2.alloc (.cells #[.int .i64 c1.epoch, .slice a c1.chain.length cap] 24))
  change BlkAt (w2.alloc (.cells #[.int .i64 c1.epoch, .slice a c1.chain.length cap] 24)) _ _ _ at hX
  generalize w2.alloc (.cells #[.int .i64 c1.epoch, .slice a c1.chain.length cap] 24) = w3 at *
  generalize w2.heap.size = X at *
  clear hbs hXs hXn hDb hwb
  have d0 : w3.cell? ⟨D, 0, none⟩ = some (.int .i64 0) := hD.cell rfl
  have d1 : w3.cell? ⟨D, 1, none⟩ = some (.slice none 0 0) := hD.cell rfl
  have hf := hD.free
  by_cases h0 : e1 = 0
  · subst h0
    obtain ⟨rfl, rfl⟩ := HK.out rfl
    obtain ⟨at_, hat, hdr, hR⟩ := hR
    have r1 := hR.cell1
    by_cases hq : l2 = []
    · have HE := Lib.hid (show (c, ok) = (c1, true) by rw [← HH.out, HR.out, if_pos ⟨rfl, hq⟩])
      have hal : at_ = l.length := by
        rw [hq] at hdr
        have := List.drop_eq_nil_iff.1 hdr
        omega
      subst hal
      have hne : ((l.length : Int) != (l.length : Int)) = false := by simp
      clear hq hdr
      have k0 : w3.cell? ⟨X, 0, none⟩ = some (.int .i64 c1.epoch) := hX.cell rfl
      have k1 : w3.cell? ⟨X, 1, none⟩ = some (.slice a c1.chain.length cap) := hX.cell rfl
      have hvE := (hv.set2 hD 0 (.int .i64 c1.epoch)).set2 (hD.set 0 (.int .i64 c1.epoch)) 1 (.slice a c1.chain.length cap)
      go_wp2_with fail
      have HE := HE.out
      simp only [Prod.mk.injEq] at HE
      obtain ⟨rfl, rfl⟩ := HE
      obtain ⟨hE, hbE⟩ := fin2 (p := .int .i64 c.epoch) (q := .slice a c.chain.length cap) hD hb hDn
      change bodyPost _ _ _ _ _ ((w3.setCell ⟨D, 0, none⟩ (.int .i64 c.epoch)).setCell ⟨D, 1, none⟩ (.slice a c.chain.length cap))
      generalize (w3.setCell ⟨D, 0, none⟩ (.int .i64 c.epoch)).setCell ⟨D, 1, none⟩ (.slice a c.chain.length cap) = W9 at *
      clear d0 d1
      have d0 := hE.cell (i := 0) rfl
      have d1 := hE.cell (i := 1) rfl
      exact bodyPost_ret (v := .tuple #[.agg #[.int .i64 c.epoch, .slice a c.chain.length cap], .bool true]) (by simp [results, Try.results34, go_sem, d0, d1] <;> rfl) rfl ⟨_, rfl, hvE, hbE⟩
    · have HE := Lib.hid (show (c, ok) = (confZero, false) by rw [← HH.out, HR.out, if_neg (fun h => hq h.2)])
      have hal : at_ ≠ l.length := fun h => hq (by rw [← hdr, h]; exact List.drop_length)
      have hne : ((at_ : Int) != (l.length : Int)) = true := by simp; omega
      have hne2 : ¬ (at_ : Int) = (l.length : Int) := by omega
      clear hq hdr hal
      go_wp2_with fail
      have HE := HE.out
      simp only [Prod.mk.injEq] at HE
      obtain ⟨rfl, rfl⟩ := HE
      obtain ⟨hE, hbE⟩ := fin2 (p := .int .i64 0) (q := .slice none 0 0) hD hb hDn
      change bodyPost _ _ _ _ _ ((w3.setCell ⟨D, 0, none⟩ (.int .i64 0)).setCell ⟨D, 1, none⟩ (.slice none 0 0))
      generalize (w3.setCell ⟨D, 0, none⟩ (.int .i64 0)).setCell ⟨D, 1, none⟩ (.slice none 0 0) = W9 at *
      clear d0 d1
      have d0 := hE.cell (i := 0) rfl
      have d1 := hE.cell (i := 1) rfl
      exact bodyPost_ret (v := .tuple #[.agg #[.int .i64 0, .slice none 0 0], .bool false]) (by simp [results, Try.results34, go_sem, d0, d1] <;> rfl) rfl ⟨_, rfl, ChainAt.nil _, hbE⟩
  · have HE := Lib.hid (show (c, ok) = (confZero, false) by rw [← HH.out, HR.out, if_neg (fun h => h0 h.1)])
    have h0' : (e1 == 0) = false := by simpa using h0
    go_wp2_with fail
    have HE := HE.out
    simp only [Prod.mk.injEq] at HE
    obtain ⟨rfl, rfl⟩ := HE
    obtain ⟨hE, hbE⟩ := fin2 (p := .int .i64 0) (q := .slice none 0 0) hD hb hDn
    change bodyPost _ _ _ _ _ ((w3.setCell ⟨D, 0, none⟩ (.int .i64 0)).setCell ⟨D, 1, none⟩ (.slice none 0 0))
    generalize (w3.setCell ⟨D, 0, none⟩ (.int .i64 0)).setCell ⟨D, 1, none⟩ (.slice none 0 0) = W9 at *
    clear d0 d1
    have d0 := hE.cell (i := 0) rfl
    have d1 := hE.cell (i := 1) rfl
    exact bodyPost_ret (v := .tuple #[.agg #[.int .i64 0, .slice none 0 0], .bool false]) (by simp [results, Try.results34, go_sem, d0, d1] <;> rfl) rfl ⟨_, rfl, ChainAt.nil _, hbE⟩

theorem quint_w (x : Int) (w : World) : Calls Try.prog 63 #[.int .u64 (IntKind.u64.wrap x)] w fun e w' => e = .returned (.string ⟨(enc (u64 x)).toArray⟩) ∧ Below w.heap.size w w' := by
  rw [u64_wrap]
  exact quint_any (u64 x) (u64_fit x) w
theorem str_join (a b : List UInt8) : (⟨a.toArray⟩ : ByteArray) ++ ⟨b.toArray⟩ = ⟨(a ++ b).toArray⟩ := by simp [ByteArray.mk_append_mk]

set_option maxRecDepth 100000 in
set_option maxHeartbeats 2000000 in

theorem qcprint_any {w : World} {v : Value} {L : List SeatV} (hv : ChainAt w v L) (e : Int) (hl : L.length ≤ 100000) :
    Calls Try.prog 40 #[.agg #[.int .i64 e, v]] w fun en w' => en = .returned (.string ⟨(encConf ⟨e, L⟩).toArray⟩) ∧ Below w.heap.size w w' := by
  obtain ⟨a, cap, rfl, hs⟩ := hv
  have hv : ChainAt w (.slice a L.length cap) L := ⟨a, cap, rfl, hs⟩
  have hLok := hs.2.1
  have hlen := hs.1
  unfold maxLen at hlen
  go_enter Try.func40, Try.ntmps40
  go_upto_region 1 with (fail)
  have hC : BlkAt (w.alloc (.cells #[.int .i64 e, .slice a L.length cap] 24)) w.heap.size 24 [.int .i64 e, .slice a L.length cap] := BlkAt.new w 24 [.int .i64 e, .slice a L.length cap]
  have hb : Below w.heap.size w (w.alloc (.cells #[.int .i64 e, .slice a L.length cap] 24)) := (Below.refl w.heap.size w).alloc (Nat.le_refl _) _
  have hWs : w.heap.size + 1 ≤ (w.alloc (.cells #[.int .i64 e, .slice a L.length cap] 24)).heap.size := by simp
  change Code.wp _ _ _ _ (w.alloc (.cells #[.int .i64 e, .slice a L.length cap] 24))
  generalize w.alloc (.cells #[.int .i64 e, .slice a L.length cap] 24) = W at *
  have c0 : W.cell? ⟨w.heap.size, 0, none⟩ = some (.int .i64 e) := hC.cell rfl
  have c1 : W.cell? ⟨w.heap.size, 1, none⟩ = some (.slice a L.length cap) := hC.cell rfl
  have e1 := (enc_len (u64 e)).2
  have e2 := (enc_len (u64 (L.length : Int))).2
  have z1 : ¬ 9223372036854775807 < (enc (u64 e)).length + (enc (u64 (L.length : Int))).length := by omega
  have hj := str_join (enc (u64 e)) (enc (u64 (L.length : Int)))
  rw [← encU_two] at hj
  have HJ := Lib.hid hj
  clear hj
  go_region_held (fun w' => w'.cell? ⟨w.heap.size, 0, none⟩ = some (.int .i64 e) ∧ w'.cell? ⟨w.heap.size, 1, none⟩ = some (.slice a L.length cap)) (go_keep)
    ((go_at_call 63; refine (quint_w _ _).mono ?_; rintro en w1 ⟨rfl, b1⟩; have hb : Below w.heap.size w w1 := below_step (by first | exact hb | exact below_drewN hb 1) b1; have hC : BlkAt w1 w.heap.size 24 [.int .i64 e, .slice a L.length cap] := BlkAt.below (by exact hC) b1; have c0 : w1.cell? ⟨w.heap.size, 0, none⟩ = some (.int .i64 e) := hC.cell rfl; have c1 : w1.cell? ⟨w.heap.size, 1, none⟩ = some (.slice a L.length cap) := hC.cell rfl))
  rw [HJ.out]
  have hl0 : (encU [e, (L.length : Int)]).length ≤ 20 := encU_len [e, (L.length : Int)]
  go_wp2_with fail
  clear c0 c1 z1 e1 e2
  go_loopw [3, 4] (fun s i wr => ∃ k : Nat, k ≤ L.length ∧ i = .int .i64 k ∧ s = .string ⟨(encU [e, (L.length : Int)] ++ encSeats (L.take k)).toArray⟩ ∧ BlkAt wr w.heap.size 24 [.int .i64 e, .slice a L.length cap] ∧ Below w.heap.size w wr) (fun _ i _ => L.length - (intOf i).toNat)
  case atStart => exact ⟨0, Nat.zero_le _, rfl, by simp [encSeats], hC, hb⟩
  case round =>
    obtain ⟨k, hk, rfl, rfl, hC, hb⟩ := hrel
    have hl1 : (encSeats (L.take k)).length ≤ 2100000 := by have h1 := encSeats_len (L.take k); have h2 := List.length_take_le k L; omega
    have c1 : wr.cell? ⟨w.heap.size, 1, none⟩ = some (.slice a L.length cap) := hC.cell rfl
    by_cases hlt : k < L.length
    · obtain ⟨bs, off, rfl, hab, hc⟩ := hs.2.2 (by omega)
      obtain ⟨s, hs'⟩ : ∃ s, L[k]? = some s := ⟨_, List.getElem?_eq_getElem hlt⟩
      obtain ⟨s0, s1, s2⟩ := (hc k s hs').of (w' := wr) fun j => hb.cell (p := ⟨bs, j, none⟩) hab
      have HT := Lib.hid (show encU [e, (L.length : Int)] ++ encSeats (L.take (k + 1)) = encU [e, (L.length : Int)] ++ encSeats (L.take k) ++ encU [s.node, s.life] ++ [flagB s.sync] by rw [take_snoc hs', encSeats_snoc, encSeat]; simp)
      obtain ⟨x, y, z⟩ := s
      simp only at s0 s1 s2 HT
      have hHs := Lib.hid hs
      have hPl : (encU [e, (L.length : Int)] ++ encSeats (L.take k)).length ≤ 4000000 := by rw [List.length_append]; omega
      clear hc hs' hs hv
      go_upto_region 6 with (fail)
      have hbs := hb.size
      have hS := BlkAt.new wr 50 [.int .i64 x, .int .i64 y, .bool z]
      have hC := hC.alloc (.cells #[.int .i64 x, .int .i64 y, .bool z] 50)
      have hb := hb.alloc hb.size (.cells #[.int .i64 x, .int .i64 y, .bool z] 50)
      have hSs : wr.heap.size + 1 ≤ (wr.alloc (.cells #[.int .i64 x, .int .i64 y, .bool z] 50)).heap.size := by simp
      have hSn : w.heap.size ≤ wr.heap.size := by omega
      change Code.wp _ _ _ _ (wr.alloc (.cells #[.int .i64 x, .int .i64 y, .bool z] 50))
      change BlkAt (wr.alloc (.cells #[.int .i64 x, .int .i64 y, .bool z] 50)) _ _ _ at hS
      generalize wr.alloc (.cells #[.int .i64 x, .int .i64 y, .bool z] 50) = w3 at *
      generalize wr.heap.size = S at *
      clear s0 s1 s2 c1
      have s0 : w3.cell? ⟨S, 0, none⟩ = some (.int .i64 x) := hS.cell rfl
      have s1 : w3.cell? ⟨S, 1, none⟩ = some (.int .i64 y) := hS.cell rfl
      generalize encU [e, (L.length : Int)] ++ encSeats (L.take k) = P at *
      have e1 := (enc_len (u64 x)).2
      have e2 := (enc_len (u64 y)).2
      have z1 : ¬ 9223372036854775807 < (enc (u64 x)).length + (enc (u64 y)).length := by omega
      have z2 : ¬ 9223372036854775807 < P.length + ((enc (u64 x)).length + (enc (u64 y)).length) := by omega
      have hj := str_join (enc (u64 x)) (enc (u64 y))
      rw [← encU_two] at hj
      have HJ := Lib.hid (show (⟨P.toArray⟩ : ByteArray) ++ (⟨(enc (u64 x)).toArray⟩ ++ ⟨(enc (u64 y)).toArray⟩) = ⟨(P ++ encU [x, y]).toArray⟩ by rw [hj, str_join])
      have hl2 : (encU [x, y]).length ≤ 20 := encU_len [x, y]
      clear hj
      go_region_held (fun w' => w'.cell? ⟨S, 0, none⟩ = some (.int .i64 x) ∧ w'.cell? ⟨S, 1, none⟩ = some (.int .i64 y)) (go_keep)
        ((go_at_call 63; refine (quint_w _ _).mono ?_; rintro en w4 ⟨rfl, b4⟩; have hb : Below w.heap.size w w4 := below_step (by first | exact hb | exact below_drewN hb 1) b4; have hC : BlkAt w4 w.heap.size 24 [.int .i64 e, .slice (some ⟨bs, off, none⟩) L.length cap] := BlkAt.below (by exact hC) b4; have hS : BlkAt w4 S 50 [.int .i64 x, .int .i64 y, .bool z] := BlkAt.below (by exact hS) b4; have s0 : w4.cell? ⟨S, 0, none⟩ = some (.int .i64 x) := hS.cell rfl; have s1 : w4.cell? ⟨S, 1, none⟩ = some (.int .i64 y) := hS.cell rfl))
      rw [HJ.out]
      have hPl2 : (P ++ encU [x, y]).length ≤ 5000000 := by rw [List.length_append]; omega
      generalize P ++ encU [x, y] = P2 at *
      have s2 : w4.cell? ⟨S, 2, none⟩ = some (.bool z) := hS.cell rfl
      clear z1 z2 s0 s1 HJ
      have z3 : ¬ 9223372036854775807 < P2.length + 1 := by omega
      cases z with
      | true =>
        have hj : (⟨P2.toArray⟩ : ByteArray) ++ ⟨#[1]⟩ = ⟨(P2 ++ [flagB true]).toArray⟩ := str_join P2 [1]
        have HJ := Lib.hid hj
        clear hj
        go_wp2_with fail
        go_roundw
        case rel => exact ⟨k + 1, by omega, by go_num, by rw [HJ.out, HT.out], hC, hb⟩
        case measure => simp [intOf]; omega
      | false =>
        have hj : (⟨P2.toArray⟩ : ByteArray) ++ ⟨#[0]⟩ = ⟨(P2 ++ [flagB false]).toArray⟩ := str_join P2 [0]
        have HJ := Lib.hid hj
        clear hj
        go_wp2_with fail
        go_roundw
        case rel => exact ⟨k + 1, by omega, by go_num, by rw [HJ.out, HT.out], hC, hb⟩
        case measure => simp [intOf]; omega
    · rw [List.take_of_length_le (by omega)]
      go_wp2_with fail
      go_ret
      exact ⟨rfl, hb⟩
end Go.Proofs.Ytofdmdpnobhnlaa
