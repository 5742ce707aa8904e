/- StablePlays: for every script the law answers true. No condition. -/
import Derived.Test.YtoiaigbagfalmaaStCopy
import Derived.Test.YtoiaigbagfalmaaStQLog
import Derived.Deep.CutBlock
namespace Go.Proofs.Ytoiaigbagfalmaa
open Go.RowKit Go.ChangeShapes Go.WideShapes Go.Joins Go.Deep
set_option linter.unusedVariables false

section
variable {B b c : Nat} {w w' : World} {v : Value} {l m : List UInt8} {t u : Bool} {r : Option Nat}
theorem QLogAt.apart (h : QLogAt w c m u) (hl : LogAt B w b v l t) : c ≠ b ∧ some c ≠ v.ownBlock := by
  constructor
  · rintro rfl
    have h2 := hl.2.1
    unfold QLogAt at h
    rw [h] at h2
    simp at h2
  · exact own_apart h hl.2.2 (by decide)
theorem QLogAt.keptL (h : QLogAt w c m u) (hl : LogAt B w b v l t) (hk : KeptL w w' b r) (hr : r = none ∨ r = v.ownBlock) : QLogAt w' c m u := by
  obtain ⟨h1, h2⟩ := h.apart hl
  refine (hk.block c h.lt h1 ?_).trans h
  rcases hr with rfl | rfl
  · simp
  · exact h2
theorem LogAt.grownQ (h : LogAt B w b v l t) (hq : QLogAt w c m u) (hg : w.grownBy w' (some c)) : LogAt B w' b v l t := by
  obtain ⟨h1, h2⟩ := hq.apart h
  exact ⟨h.1, (hg.block b h.lt (by simpa using h1.symm)).trans h.2.1, h.2.2.kept hg (.inr fun e => h2 e.symm)⟩
theorem StrsO.grownQ {L : List (List UInt8)} {x : Value} (h : StrsO B w x L) (hq : QLogAt w c m u) (hg : w.grownBy w' (some c)) : StrsO B w' x L :=
  World.ownsRow.kept h hg (.inr fun e => own_apart hq h (by decide) e.symm)
end

theorem qcrash_whole {b : Nat} {w : World} {l s : List UInt8} {t : Bool} (h : QLogAt w b l t) (hl : l.length ≤ 65536) (hs : s.length ≤ maxLen) :
    Calls Try.prog 19 #[.pointer (some ⟨b, 0, none⟩), .string ⟨s.toArray⟩, .int .i64 0, .bool true] w fun e w' => e = .returned (.int .i64 (writeS l t s 1099511627776).2) ∧ QLogAt w' b (writeS l t s 1099511627776).1 t ∧ w.grownBy w' (some b) :=
  qcrash_any h hl hs 0 true
theorem qcrash_part {b : Nat} {w : World} {l s : List UInt8} {t : Bool} (h : QLogAt w b l t) (hl : l.length ≤ 65536) (hs : s.length ≤ maxLen) (keep : Int) :
    Calls Try.prog 19 #[.pointer (some ⟨b, 0, none⟩), .string ⟨s.toArray⟩, .int .i64 keep, .bool false] w fun e w' => e = .returned (.int .i64 (writeS l t s keep).2) ∧ QLogAt w' b (writeS l t s keep).1 (tornS l t s keep) ∧ w.grownBy w' (some b) :=
  qcrash_any h hl hs keep false

theorem size_at {B b : Nat} {w : World} {v : Value} {l : List UInt8} {t : Bool} (h : LogAt B w b v l t) :
    Calls Try.prog 22 #[.pointer (some ⟨b, 0, none⟩)] w fun e w' => e = .returned (.int .i64 (l.length : Nat)) ∧ Below w.heap.size w w' :=
  (size_any h).mono fun _ _ ⟨he, hw⟩ => ⟨he, hw ▸ Below.refl _ _⟩

set_option maxRecDepth 100000 in
set_option maxHeartbeats 8000000 in

theorem StablePlays_go {w : World} {a : Option Addr} {cap : Nat} {S : List SOp} (hS : SOpsAt w a S) :
    Calls Try.prog 6 #[.slice a S.length cap] w fun e w' => e = .returned (.bool true) ∧ Below w.heap.size w w' := by
  have hlen := hS.1
  unfold maxLen at hlen
  have HS := Lib.hid hS
  clear hS
  go_enter Try.func6, Try.ntmps6
  go_wp2_with fail
  refine (awake_any _).mono ?_
  rintro e w1 ⟨rfl, hb⟩
  go_wp2_with fail
  have hS1 : SOpsAt w1 a S := ⟨HS.out.1, HS.out.2.1, fun hp => by
    obtain ⟨b, off, h1, h2, h3⟩ := HS.out.2.2 hp
    exact ⟨b, off, h1, Nat.lt_of_lt_of_le h2 hb.size, fun i o hi => (h3 i o hi).of fun j => hb.cell (p := ⟨b, j, none⟩) h2⟩⟩
  refine (long_any hS1).mono ?_
  rintro e w2 ⟨q, rfl, b2, hq⟩
  have hb := below_step hb b2
  clear hS1 b2
  cases q with
  | true =>
    clear hq
    go_wp2_with fail
    refine (awake_any _).mono ?_
    rintro e w3 ⟨rfl, b3⟩
    have hb := below_step hb b3
    go_wp2_with fail
    go_ret
    exact ⟨rfl, hb⟩
  | false =>
    obtain ⟨hSl, hSs⟩ := hq rfl
    have HSS := Lib.hid hSs
    clear hSs hq
    go_wp2_with fail
    refine (new_log _).mono ?_
    rintro e w3 ⟨b, rfl, hL, b3⟩
    have hsz := hb.size
    have hL := hL.base hsz
    have hb := below_step hb b3
    clear b3
    go_upto_region 4 with (fail)
    have hQ : QLogAt (w3.alloc (.cells #[.string ⟨#[]⟩, .bool false] 43)) w3.heap.size [] false := heap_alloc_new _ _
    have hL := hL.alloc (.cells #[.string ⟨#[]⟩, .bool false] 43)
    have hcn := hb.size
    have hb := hb.alloc hb.size (.cells #[.string ⟨#[]⟩, .bool false] 43)
    change Code.wp _ _ _ _ (w3.alloc (.cells #[.string ⟨#[]⟩, .bool false] 43))
    generalize w3.alloc (.cells #[.string ⟨#[]⟩, .bool false] 43) = w4 at *
    generalize w3.heap.size = c at *
    go_wp2_with fail
    go_loopw [3, 22] (fun p i wr => ∃ (k : Nat), k ≤ S.length ∧ i = .int .i64 k ∧ ∃ (b : Nat) (v : Value) (l : List UInt8) (t : Bool), p = .pointer (some ⟨b, 0, none⟩) ∧ LogAt w.heap.size wr b v l t ∧ QLogAt wr c l t ∧ l.length ≤ 65536 ∧ Below w.heap.size w wr) (fun _ i _ => S.length - (intOf i).toNat)
    case atStart => exact ⟨0, Nat.zero_le _, rfl, b, _, [], false, rfl, hL, hQ, by simp, hb⟩
    case round =>
      clear hL hQ hb hsz
      obtain ⟨k, hk, rfl, b, v, l, t, rfl, hL, hQ, hl, hb⟩ := hrel
      by_cases hlt : k < S.length
      · obtain ⟨bs, off, rfl, hab, hc⟩ := HS.out.2.2 (by omega)
        obtain ⟨o, ho⟩ : ∃ o, S[k]? = some o := ⟨_, List.getElem?_eq_getElem hlt⟩
        obtain ⟨s0, s1, s2⟩ := (hc k o ho).of (w' := wr) fun j => hb.cell (p := ⟨bs, j, none⟩) hab
        have hsl := HSS.out o (List.mem_of_getElem? ho)
        obtain ⟨kd, kp, s⟩ := o
        simp only at s0 s1 s2 hsl
        have hsm : s.length ≤ maxLen := by unfold maxLen; omega
        clear hc ho
        have hbn := hL.1
        have hbT := hL.lt
        have hrT := hL.rowlt
        have hcT := hQ.lt
        have hQ := hQ.below ((Below.refl _ _).alloc (Nat.le_refl _) (.cells #[.int .i64 kd, .int .i64 kp, .string ⟨s.toArray⟩] 36))
        go_upto_region 7 with (fail)
        have hT := BlkAt.new wr 36 [.int .i64 kd, .int .i64 kp, .string ⟨s.toArray⟩]
        have hL := hL.alloc (.cells #[.int .i64 kd, .int .i64 kp, .string ⟨s.toArray⟩] 36)
        have hb := hb.alloc hb.size (.cells #[.int .i64 kd, .int .i64 kp, .string ⟨s.toArray⟩] 36)
        change Code.wp _ _ _ _ (wr.alloc (.cells #[.int .i64 kd, .int .i64 kp, .string ⟨s.toArray⟩] 36))
        change BlkAt (wr.alloc (.cells #[.int .i64 kd, .int .i64 kp, .string ⟨s.toArray⟩] 36)) _ _ _ at hT
        generalize wr.alloc (.cells #[.int .i64 kd, .int .i64 kp, .string ⟨s.toArray⟩] 36) = v1_0 at *
        generalize wr.heap.size = T at *
        clear s0 s1 s2
        have hBw := hb.size
        have hTc : T ≠ c := by omega
        have fhT0 : v1_0.cell? ⟨T, 0, none⟩ = some (.int .i64 kd) := hT.cell rfl
        have fhT1 : v1_0.cell? ⟨T, 1, none⟩ = some (.int .i64 kp) := hT.cell rfl
        have fhT2 : v1_0.cell? ⟨T, 2, none⟩ = some (.string ⟨s.toArray⟩) := hT.cell rfl
        go_upto_block 2 with (fail)
        clear fhT0 fhT1 fhT2
        go_cut [3] from 23 to 92 (fun p wx => ∃ (b : Nat) (v : Value) (l : List UInt8) (t : Bool), p = .pointer (some ⟨b, 0, none⟩) ∧ LogAt w.heap.size wx b v l t ∧ QLogAt wx c l t ∧ l.length ≤ 65536 ∧ Below w.heap.size w wx)
        case first =>
          by_cases k1 : kd = 1
          · subst k1
            have c0 : v1_0.cell? ⟨T, 0, none⟩ = some (.int .i64 1) := hT.cell rfl
            have c1 : v1_0.cell? ⟨T, 1, none⟩ = some (.int .i64 kp) := hT.cell rfl
            have c2 : v1_0.cell? ⟨T, 2, none⟩ = some (.string ⟨s.toArray⟩) := hT.cell rfl
            go_upto_region 13 with (fail)
            go_region_held3 (fun w' => w'.cell? ⟨T, 0, none⟩ = some (.int .i64 1) ∧ w'.cell? ⟨T, 1, none⟩ = some (.int .i64 kp) ∧ w'.cell? ⟨T, 2, none⟩ = some (.string ⟨s.toArray⟩))
              (first | exact ⟨c0, c1, c2⟩ | go_keep)
              (first
              | (go_at_call 15; refine (append_any (by exact hL) hl hsm (by first | exact hb.size | exact (below_drewN hb 1).size)).mono ?_; rintro en wz ⟨rfl, ⟨v9, hL9⟩, hk⟩; have hQ := QLogAt.keptL (by exact hQ) (by exact hL) hk (.inr rfl); have hT := blk_keptL (by exact hT) hk hbT hrT; have hb : Below w.heap.size w wz := hk.below (by first | exact hb | exact below_drewN hb 1) hbn (LogAt.row (by exact hL)); have hL := hL9; have c0 : wz.cell? ⟨T, 0, none⟩ = some (.int .i64 1) := hT.cell rfl; have c1 : wz.cell? ⟨T, 1, none⟩ = some (.int .i64 kp) := hT.cell rfl; have c2 : wz.cell? ⟨T, 2, none⟩ = some (.string ⟨s.toArray⟩) := hT.cell rfl; clear hL9 hk)
              | (go_at_call 19; refine (qcrash_whole (by exact hQ) hl hsm).mono ?_; rintro en wz ⟨rfl, hQ9, hg⟩; have hL := LogAt.grownQ (by exact hL) (by exact hQ) hg; have hT := BlkAt.grown (by exact hT) hg hTc; have hb : Below w.heap.size w wz := grown_below (by first | exact hb | exact below_drewN hb 1) hg hcn; have hQ := hQ9; have c0 : wz.cell? ⟨T, 0, none⟩ = some (.int .i64 1) := hT.cell rfl; have c1 : wz.cell? ⟨T, 1, none⟩ = some (.int .i64 kp) := hT.cell rfl; have c2 : wz.cell? ⟨T, 2, none⟩ = some (.string ⟨s.toArray⟩) := hT.cell rfl; clear hQ9 hg))
            all_goals
              go_wp2_with fail
              go_meet
              exact ⟨b, _, _, _, rfl, hL, hQ, writeS_len hl, hb⟩
          · have k1' : (kd == 1) = false := by simpa using k1
            by_cases k2 : kd = 2
            · subst k2
              have c0 : v1_0.cell? ⟨T, 0, none⟩ = some (.int .i64 2) := hT.cell rfl
              have c1 : v1_0.cell? ⟨T, 1, none⟩ = some (.int .i64 kp) := hT.cell rfl
              have c2 : v1_0.cell? ⟨T, 2, none⟩ = some (.string ⟨s.toArray⟩) := hT.cell rfl
              go_upto_region 16 with (fail)
              go_region_held3 (fun w' => w'.cell? ⟨T, 0, none⟩ = some (.int .i64 2) ∧ w'.cell? ⟨T, 1, none⟩ = some (.int .i64 kp) ∧ w'.cell? ⟨T, 2, none⟩ = some (.string ⟨s.toArray⟩))
                (first | exact ⟨c0, c1, c2⟩ | go_keep)
                (first
                | (go_at_call 16; refine (crash_any (by exact hL) hl hsm (by first | exact hb.size | exact (below_drewN hb 1).size) kp).mono ?_; rintro en wz ⟨rfl, ⟨v9, hL9⟩, hk⟩; have hQ := QLogAt.keptL (by exact hQ) (by exact hL) hk (.inr rfl); have hT := blk_keptL (by exact hT) hk hbT hrT; have hb : Below w.heap.size w wz := hk.below (by first | exact hb | exact below_drewN hb 1) hbn (LogAt.row (by exact hL)); have hL := hL9; have c0 : wz.cell? ⟨T, 0, none⟩ = some (.int .i64 2) := hT.cell rfl; have c1 : wz.cell? ⟨T, 1, none⟩ = some (.int .i64 kp) := hT.cell rfl; have c2 : wz.cell? ⟨T, 2, none⟩ = some (.string ⟨s.toArray⟩) := hT.cell rfl; clear hL9 hk)
                | (go_at_call 19; refine (qcrash_part (by exact hQ) hl hsm kp).mono ?_; rintro en wz ⟨rfl, hQ9, hg⟩; have hL := LogAt.grownQ (by exact hL) (by exact hQ) hg; have hT := BlkAt.grown (by exact hT) hg hTc; have hb : Below w.heap.size w wz := grown_below (by first | exact hb | exact below_drewN hb 1) hg hcn; have hQ := hQ9; have c0 : wz.cell? ⟨T, 0, none⟩ = some (.int .i64 2) := hT.cell rfl; have c1 : wz.cell? ⟨T, 1, none⟩ = some (.int .i64 kp) := hT.cell rfl; have c2 : wz.cell? ⟨T, 2, none⟩ = some (.string ⟨s.toArray⟩) := hT.cell rfl; clear hQ9 hg))
              all_goals
                go_wp2_with fail
                go_meet
                exact ⟨b, _, _, _, rfl, hL, hQ, writeS_len hl, hb⟩
            · have k2' : (kd == 2) = false := by simpa using k2
              by_cases k3 : kd = 3
              · subst k3
                go_wp2_with fail
                refine (recover_any (by exact hL) hl).mono ?_
                rintro e w5 ⟨ax, cx, rfl, hx, ⟨v6, hL6⟩, hk6⟩
                have hb := hk6.below hb hbn (by intro j hj; cases hj)
                have hQ := hQ.keptL hL hk6 (.inl rfl)
                clear hk6 hL hT
                go_wp2_with fail
                refine (qrecover_any (by exact hQ) hl).mono ?_
                rintro e w6 ⟨ay, cy, rfl, hy, hQ6, hg⟩
                have hb := grown_below hb hg hcn
                have hL6 := hL6.grownQ hQ hg
                have hx := hx.grownQ hQ hg
                clear hg hQ
                go_wp2_with fail
                refine (same_any (by exact hx.v) (by exact hy.v)).mono ?_
                rintro e w7 ⟨rfl, b7⟩
                have hb := below_step hb b7
                have hL := hL6.below b7
                have hQ := hQ6.below b7
                have hln : (l.take (scanS l).2).length ≤ 65536 := by rw [List.length_take]; omega
                clear hx hy hL6 hQ6 b7
                rw [show decide ((scanS l).1 = (scanS l).1) = true by simp]
                go_wp2_with fail
                go_meet
                exact ⟨b, _, _, _, rfl, hL, hQ, hln, hb⟩
              · have k3' : (kd == 3) = false := by simpa using k3
                go_wp2_with fail
                refine (copy_any (by exact hL) hl).mono ?_
                rintro e w5 ⟨d, vd, rfl, hD, b5⟩
                have hbl := hL.lt
                have hrl := hL.rowlt
                have hL := hL.below b5
                have hQ := hQ.below b5
                have hbw := hb.size
                have hb := below_step hb b5
                have hd1 := hD.1
                have hd2 := hD.row
                clear b5 hT
                go_wp2_with fail
                refine (append_any (s := [120]) (by exact hL) hl (by simp [maxLen]) hb.size).mono ?_
                rintro e w6 ⟨rfl, ⟨v6, hL6⟩, hk⟩
                have hQ := hQ.keptL hL hk (.inr rfl)
                have hD := hD.kept hk (by omega) (fun e => by have := hrl d e.symm; omega) (by
                  rcases hq : vd.ownBlock with _ | j
                  · exact .inl rfl
                  · exact .inr (fun e => by have := hrl j e.symm; have := hd2 j hq; omega)) (fun e => by have := hd2 b e; omega)
                have hb := hk.below hb hbn hL.row
                clear hk hL
                go_wp2_with fail
                refine (recover_any (by exact hL6) (writeS_len hl)).mono ?_
                rintro e w7 ⟨ax, cx, rfl, hx, _, hk6⟩
                have hQ := hQ.keptL hL6 hk6 (.inl rfl)
                have hD := hD.kept hk6 (by omega) (by simp) (by
                  rcases hq : vd.ownBlock with _ | j
                  · exact .inl rfl
                  · exact .inr (by simp)) (fun e => by have := hd2 b e; omega)
                have hb := hk6.below hb hbn (by intro j hj; cases hj)
                have hD := hD.base hbw
                clear hk6 hL6 hx
                go_wp2_with fail
                go_meet
                exact ⟨d, vd, l, t, rfl, hD, hQ, hl, hb⟩
        case rest =>
          clear hL hQ hl hb hbn hbT hrT hcT hBw
          obtain ⟨b, v, l, t, rfl, hL, hQ, hl, hb⟩ := hcut
          clear hT hTc
          have c0 : wc.cell? ⟨c, 0, none⟩ = some (.string ⟨l.toArray⟩) := hQ.cell0
          go_wp2_with fail
          refine (qscan_any l (by omega) _).mono ?_
          rintro e w5 ⟨ay, cy, rfl, hy, b5⟩
          have hy := hy.v
          have hL := hL.below b5
          have hQ := hQ.below b5
          have hb := below_step hb b5
          clear b5 c0
          have c0 : w5.cell? ⟨c, 0, none⟩ = some (.string ⟨l.toArray⟩) := hQ.cell0
          go_upto_region 22 with (fail)
          go_region_held3 (fun w' => w'.cell? ⟨c, 0, none⟩ = some (.string ⟨l.toArray⟩))
            (first | exact c0 | go_keep)
            (first
            | (go_at_call 22; refine (size_at (by exact hL)).mono ?_; rintro en wz ⟨rfl, bz⟩; have hL := LogAt.below (by exact hL) bz; have hQ := QLogAt.below (by exact hQ) bz; have hy := StrsV.below (by exact hy) bz; have hb : Below w.heap.size w wz := below_step (by first | exact hb | exact below_drewN hb 1) bz; have c0 : wz.cell? ⟨c, 0, none⟩ = some (.string ⟨l.toArray⟩) := hQ.cell0; clear bz)
            | (go_at_call 18; refine (all_any (by exact hL) hl).mono ?_; rintro en wz ⟨ax, cx, rfl, hx, bz⟩; have hL := LogAt.below (by exact hL) bz; have hQ := QLogAt.below (by exact hQ) bz; have hy := StrsV.below (by exact hy) bz; have hx := hx.v; have hb : Below w.heap.size w wz := below_step (by first | exact hb | exact below_drewN hb 1) bz; have c0 : wz.cell? ⟨c, 0, none⟩ = some (.string ⟨l.toArray⟩) := hQ.cell0; clear bz)
            | (go_at_call 12; refine (same_any (by exact hx) (by exact hy)).mono ?_; rintro en wz ⟨rfl, bz⟩; have hL := LogAt.below (by exact hL) bz; have hQ := QLogAt.below (by exact hQ) bz; have hb : Below w.heap.size w wz := below_step (by first | exact hb | exact below_drewN hb 1) bz; have c0 : wz.cell? ⟨c, 0, none⟩ = some (.string ⟨l.toArray⟩) := hQ.cell0; clear bz))
          have HL := Lib.hid hL
          have HQ := Lib.hid hQ
          have HB := Lib.hid hb
          clear hL hQ hb hx hy c0
          go_wp2_with fail
          go_roundw
          case rel => exact ⟨k + 1, by omega, by go_num, b, _, l, t, rfl, HL.out, HQ.out, hl, HB.out⟩
          case measure => simp [intOf]; omega
      · obtain rfl : k = S.length := by omega
        go_wp2_with fail
        go_ret
        exact ⟨rfl, hb⟩

set_option maxRecDepth 100000 in
theorem StablePlays_walk {H : Type} {enc : TypeId × Value → H} {base : Nat} {d : DataW H} {p : List MemPlace} (v : Value) (w : World) (hv : Value.okWide Try.prog w .any base 31 v) (ht : DataW.Trod enc Try.prog w 0 (fun _ => true) true 31 v d p) :
    Calls Try.prog 6 #[v] w fun e w' => e = .returned (.bool true) ∧ Below w.heap.size w w' := by
  obtain ⟨a, S, cap, rfl, hS⟩ := open_sops hv ht
  exact StablePlays_go hS


set_option maxRecDepth 100000 in
theorem StablePlays_calls (H : Type) (enc : TypeId × Value → H) (W : World) (base : Nat) (args : Array Value) (ds gs : List (DataW H)) (before : List MemPlace)
    (hval : ∀ (j : Nat) t v, Try.f6.params[j]? = some t → args[j]? = some v → Value.okWide Try.prog W .any base t v)
    (hW : DataW.Whole enc Try.prog Try.f6.params.toList Rows.stablePlaysSpec.vars false W args.toList ds gs before) :
    Calls Try.prog 6 args W fun e W' => e = .returned (.bool true) ∧ Below W.heap.size W W' := by
  obtain ⟨p, q, hA, hV, rfl, hfz, hnd⟩ := hW
  rw [Try.params6] at hA hval
  obtain ⟨v0, vs0, d0, ds0, p0, q0, hargs, rfl, rfl, h0, r0⟩ := trodAll_cons hA
  obtain ⟨rfl, rfl, rfl⟩ := trodAll_nil r0
  obtain rfl : args = #[v0] := Array.toList_inj.1 hargs

  exact StablePlays_walk v0 W (hval 0 31 v0 rfl rfl) h0

set_option maxRecDepth 100000 in
theorem StablePlays_lifted (os : Os) (started : os.Started) (H : Type) (enc : TypeId × Value → H) :
    ReturnsInHanded {} Try.checked os 6 .any (Rows.stablePlaysSpec.pre6 enc Try.prog Try.f6 Rows.stablePlaysRow.domain false) (Rows.stablePlaysSpec.post enc Try.prog Try.f6 false true false false) := by
  refine returnsInHanded_of_change (C := Try.checked) own started (by kernel_rfl) Try.func6
    (ChangeSpec.witness6 (enc := enc) (C := Try.checked) false ⟨#[], #[.slice none 0 0], []⟩ 8 (by kernel_rfl) (by kernel_rfl) (by kernel_rfl) (by kernel_rfl)) ?_
  intro W base args ds gs before hval0 hW hcnd _
  have hval : ∀ (j : Nat) t v, Try.f6.params[j]? = some t → args[j]? = some v → Value.okWide Try.prog W .any base t v := hval0
  refine (StablePlays_calls H enc W base args ds gs before hval hW).mono fun e W' ⟨he, bel⟩ => ?_
  exact ⟨_, he, law_post (ts := [31]) (by rw [Try.params6]) (by intro t ht; simp only [List.mem_cons, List.not_mem_nil, or_false] at ht; subst ht <;> exact ⟨by kernel_rfl, of_decide_eq_true (by kernel_rfl)⟩) hW rfl
    (fun ds h => by match ds, h with | [_], _ => rfl) (by kernel_rfl) bel⟩

theorem StablePlays_over : Rows.stablePlaysRow.holds Try.pinned (OpenSpec.ofChange Rows.stablePlaysSpec) :=
  OpenClaim.holds_of_wide 6 Try.f6 rfl rfl rfl rfl rfl rfl rfl ⟨rfl, rfl, rfl, rfl, rfl⟩ rfl rfl rfl rfl rfl (by kernel_rfl) Try.func6 (by kernel_rfl)
    (of_decide_eq_true (by kernel_rfl)) (by unfold Func.isWrapper; first | (rw [if_pos (by decide +kernel)]; kernel_rfl) | (rw [if_neg (by decide +kernel)]; exact ⟨rfl, rfl⟩))
    (fun os started H enc _ => StablePlays_lifted os started H enc)

/-- The statement. -/
theorem StablePlays_proved : Rows.StablePlaysSaid := StablePlays_over

end Go.Proofs.Ytoiaigbagfalmaa
