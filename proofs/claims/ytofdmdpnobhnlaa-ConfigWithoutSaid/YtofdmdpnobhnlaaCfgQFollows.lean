/- The document's Follows. -/
import Derived.Test.YtofdmdpnobhnlaaCfgFollows
import Derived.Deep.DeepCutAuto
import Derived.Deep.CutRange
namespace Go.Proofs.Ytofdmdpnobhnlaa
open Go.RowKit Go.ChangeShapes Go.WideShapes Go.Joins
set_option linter.unusedVariables false

theorem chain_ne2 {w : World} {b off cap n X : Nat} {T : TypeId} {p q : Value} {L : List SeatV} (h : ChainAt w (.slice (some ⟨b, off, none⟩) n cap) L) (h0 : 0 < L.length) (hX : BlkAt w X T [p, q]) : b ≠ X := by
  rintro rfl
  obtain ⟨a, c, hv, hs⟩ := h
  cases hv
  obtain ⟨b', off', he, hab, hc⟩ := hs.2.2 h0
  cases he
  obtain ⟨s, hs'⟩ : ∃ s, L[0]? = some s := ⟨_, List.getElem?_eq_getElem h0⟩
  have h2 := (hc 0 s hs').2.2
  rw [cell_of_row _ _ _ _ _ _ hX] at h2
  simp at h2
theorem ChainAt.set2 {w : World} {v : Value} {L : List SeatV} {X : Nat} {T : TypeId} {p q : Value} (h : ChainAt w v L) (hX : BlkAt w X T [p, q]) (i : Nat) (u : Value) : ChainAt (w.setCell ⟨X, i, none⟩ u) v L := by
  have h' := h
  obtain ⟨a, cap, rfl, hs⟩ := h
  refine ⟨a, cap, rfl, hs.1, hs.2.1, fun hp => ?_⟩
  obtain ⟨b, off, rfl, hab, hc⟩ := hs.2.2 hp
  have hne := chain_ne2 h' hp hX
  refine ⟨b, off, rfl, by simpa [World.setCell] using hab, fun i' s hi => ?_⟩
  obtain ⟨c0, c1, c2⟩ := hc i' s hi
  exact ⟨cell_set_ne c0 hne, cell_set_ne c1 hne, cell_set_ne c2 hne⟩

set_option maxRecDepth 100000 in
set_option maxHeartbeats 4000000 in

theorem qcfollows_any {w : World} {v u : Value} {L M : List SeatV} (hv : ChainAt w v L) (hu : ChainAt w u M) (e f : Int) :
    Calls Try.prog 20 #[.agg #[.int .i64 e, v], .agg #[.int .i64 f, u]] w fun en w' => en = .returned (.bool (followsC ⟨e, L⟩ ⟨f, M⟩)) ∧ Below w.heap.size w w' := by
  rw [← qfollows_eq]
  have hMok := hu.ok
  obtain ⟨a, cap, rfl, hs⟩ := hv
  have hv : ChainAt w (.slice a L.length cap) L := ⟨a, cap, rfl, hs⟩
  have hLok := hv.ok
  have hlen := hs.1
  unfold maxLen at hlen
  obtain ⟨a2, cap2, rfl, hs2⟩ := hu
  have hu : ChainAt w (.slice a2 M.length cap2) M := ⟨a2, cap2, rfl, hs2⟩
  have hv0 := hv
  have hu0 := hu
  go_enter Try.func20, Try.ntmps20
  go_upto_region 1 with (fail)
  have hA : BlkAt ((w.alloc (.cells #[.int .i64 e, .slice a L.length cap] 24)).alloc (.cells #[.int .i64 f, .slice a2 M.length cap2] 24)) w.heap.size 24 [.int .i64 e, .slice a L.length cap] := (BlkAt.new w 24 [.int .i64 e, .slice a L.length cap]).alloc _
  have hB : BlkAt ((w.alloc (.cells #[.int .i64 e, .slice a L.length cap] 24)).alloc (.cells #[.int .i64 f, .slice a2 M.length cap2] 24)) (w.heap.size + 1) 24 [.int .i64 f, .slice a2 M.length cap2] := BlkAt.newAt (by simp) 24 [.int .i64 f, .slice a2 M.length cap2]
  have hb : Below w.heap.size w ((w.alloc (.cells #[.int .i64 e, .slice a L.length cap] 24)).alloc (.cells #[.int .i64 f, .slice a2 M.length cap2] 24)) := ((Below.refl w.heap.size w).alloc (Nat.le_refl _) _).alloc (by simp) _
  have hWs : w.heap.size + 2 ≤ ((w.alloc (.cells #[.int .i64 e, .slice a L.length cap] 24)).alloc (.cells #[.int .i64 f, .slice a2 M.length cap2] 24)).heap.size := by simp
  have hv := hv.below hb
  have hu := hu.below hb
  change Code.wp _ _ _ _ ((w.alloc (.cells #[.int .i64 e, .slice a L.length cap] 24)).alloc (.cells #[.int .i64 f, .slice a2 M.length cap2] 24))
  generalize (w.alloc (.cells #[.int .i64 e, .slice a L.length cap] 24)).alloc (.cells #[.int .i64 f, .slice a2 M.length cap2] 24) = W at *
  have hBn : w.heap.size ≤ w.heap.size + 1 := by omega
  have hBb : w.heap.size + 1 < w.heap.size + 2 := by omega
  have hB0 : w.heap.size + 1 ≠ w.heap.size := by omega
  generalize hBd : w.heap.size + 1 = B at *
  have a0 : W.cell? ⟨w.heap.size, 0, none⟩ = some (.int .i64 e) := hA.cell rfl
  have a1 : W.cell? ⟨w.heap.size, 1, none⟩ = some (.slice a L.length cap) := hA.cell rfl
  go_wp2_with fail
  refine (qcright_any (by exact hv) e).mono ?_
  rintro en w2 ⟨rfl, b2⟩
  have hA := hA.below b2
  have hB := hB.below b2
  have hv := hv.below b2
  have hu := hu.below b2
  have hWs : w.heap.size + 2 ≤ w2.heap.size := by have := b2.size; omega
  have hb := below_step hb b2
  clear b2
  clear a0 a1
  cases hra : rightC ⟨e, L⟩ with
  | false =>
    have HE := Lib.hid (show qfollowsC ⟨e, L⟩ ⟨f, M⟩ = false by rw [qfollowsC, if_pos hra])
    go_wp2_with fail
    go_ret
    exact ⟨by rw [HE.out]; rfl, hb⟩
  | true =>
  have HA := Lib.hid hra
  have hri := rightC_iff.1 hra
  have he1 : 1 ≤ e := hri.1
  have he2 : e ≤ 1099511627776 := hri.2.1
  have hl8 : L.length ≤ 8 := hri.2.2.2.1
  clear hra hri
  have a0 : w2.cell? ⟨B, 0, none⟩ = some (.int .i64 f) := hB.cell rfl
  have a1 : w2.cell? ⟨B, 1, none⟩ = some (.slice a2 M.length cap2) := hB.cell rfl
  go_wp2_with fail
  refine (qcright_any (by exact hu) f).mono ?_
  rintro en w3 ⟨rfl, b3⟩
  have hA := hA.below b3
  have hB := hB.below b3
  have hv := hv.below b3
  have hu := hu.below b3
  have hWs : w.heap.size + 2 ≤ w3.heap.size := by have := b3.size; omega
  have hb := below_step hb b3
  clear b3
  clear a0 a1
  cases hrb : rightC ⟨f, M⟩ with
  | false =>
    have HE := Lib.hid (show qfollowsC ⟨e, L⟩ ⟨f, M⟩ = false by rw [qfollowsC, if_neg (by rw [HA.out]; simp), if_pos hrb])
    go_wp2_with fail
    go_ret
    exact ⟨by rw [HE.out]; rfl, hb⟩
  | true =>
  have HB := Lib.hid hrb
  have hri := rightC_iff.1 hrb
  have hm1 : 1 ≤ M.length := hri.2.2.1
  have hm8 : M.length ≤ 8 := hri.2.2.2.1
  clear hrb hri
  have H1 := Lib.hid (show qfollowsC ⟨e, L⟩ ⟨f, M⟩ = if sameC ⟨e, L⟩ ⟨f, M⟩ = true then true else if e = f then L.any (syncTo ⟨e, L⟩ ⟨f, M⟩) else if f = e + 1 then if joinTo ⟨e, L⟩ ⟨f, M⟩ (lastC M).1 (lastC M).2.1 = true then true else decide (greedy M 0 L = M.length) else false by rw [qfollowsC, if_neg (by rw [HA.out]; simp), if_neg (by rw [HB.out]; simp)])
  have a0 : w3.cell? ⟨w.heap.size, 0, none⟩ = some (.int .i64 e) := hA.cell rfl
  have a1 : w3.cell? ⟨w.heap.size, 1, none⟩ = some (.slice a L.length cap) := hA.cell rfl
  have c0 : w3.cell? ⟨B, 0, none⟩ = some (.int .i64 f) := hB.cell rfl
  have c1 : w3.cell? ⟨B, 1, none⟩ = some (.slice a2 M.length cap2) := hB.cell rfl
  go_wp2_with fail
  refine (qcsame_any (by exact hv) (by exact hu)).mono ?_
  rintro en w4 ⟨rfl, b4⟩
  rw [← sameC_lit]
  have hA := hA.below b4
  have hB := hB.below b4
  have hv := hv.below b4
  have hu := hu.below b4
  have hWs : w.heap.size + 2 ≤ w4.heap.size := by have := b4.size; omega
  have hb := below_step hb b4
  clear b4
  clear a0 a1 c0 c1
  cases hsm : sameC ⟨e, L⟩ ⟨f, M⟩ with
  | true =>
    have HE := Lib.hid (show qfollowsC ⟨e, L⟩ ⟨f, M⟩ = true by rw [H1.out, if_pos hsm])
    go_wp2_with fail
    go_ret
    exact ⟨by rw [HE.out]; rfl, hb⟩
  | false =>
  have H2 := Lib.hid (show qfollowsC ⟨e, L⟩ ⟨f, M⟩ = if e = f then L.any (syncTo ⟨e, L⟩ ⟨f, M⟩) else if f = e + 1 then if joinTo ⟨e, L⟩ ⟨f, M⟩ (lastC M).1 (lastC M).2.1 = true then true else decide (greedy M 0 L = M.length) else false by rw [H1.out, if_neg (by rw [hsm]; simp)])
  clear hsm
  have a0 : w4.cell? ⟨w.heap.size, 0, none⟩ = some (.int .i64 e) := hA.cell rfl
  have a1 : w4.cell? ⟨w.heap.size, 1, none⟩ = some (.slice a L.length cap) := hA.cell rfl
  have c0 : w4.cell? ⟨B, 0, none⟩ = some (.int .i64 f) := hB.cell rfl
  have c1 : w4.cell? ⟨B, 1, none⟩ = some (.slice a2 M.length cap2) := hB.cell rfl
  by_cases hef : e = f
  · have H3 := Lib.hid (show qfollowsC ⟨e, L⟩ ⟨f, M⟩ = L.any (syncTo ⟨e, L⟩ ⟨f, M⟩) by rw [H2.out, if_pos hef])
    have hef' : (e == f) = true := by simpa using hef
    have HF := Lib.hid hef
    clear hef
    go_wp2_with fail
    clear a0 a1 c0 c1
    go_loopw [5] (fun i wr => ∃ k : Nat, k ≤ L.length ∧ i = .int .i64 k ∧ BlkAt wr w.heap.size 24 [.int .i64 e, .slice a L.length cap] ∧ BlkAt wr B 24 [.int .i64 f, .slice a2 M.length cap2] ∧ Below w.heap.size w wr ∧ Aside (∀ j t, j < k → L[j]? = some t → syncTo ⟨e, L⟩ ⟨f, M⟩ t = false)) (fun i _ => L.length - (intOf i).toNat)
    case atStart => exact ⟨0, Nat.zero_le _, rfl, hA, hB, hb, fun j t hj => absurd hj (Nat.not_lt_zero _)⟩
    case round =>
      obtain ⟨k, hk, rfl, hA, hB, hb, A⟩ := hrel
      clear hWs hv hu
      by_cases hlt : k < L.length
      · obtain ⟨b, off, rfl, hab, hc⟩ := hs.2.2 (by omega)
        obtain ⟨s, hs'⟩ : ∃ s, L[k]? = some s := ⟨_, List.getElem?_eq_getElem hlt⟩
        have hsw := hc k s hs'
        have hok := hLok s (List.mem_of_getElem? hs')
        obtain ⟨s0, s1, s2⟩ := hsw.of (w' := wr) fun j => hb.cell (p := ⟨b, j, none⟩) hab
        obtain ⟨x, y, z⟩ := s
        obtain ⟨hx, hy⟩ := hok
        simp only at s0 s1 s2 hx hy
        have HS := Lib.hid hs'
        have HSW := Lib.hid hsw
        have hv := hv0.below hb
        obtain ⟨pe, pL, px, hP⟩ := conf_parts (syncedC ⟨e, L⟩ x y)
        have HE := Lib.hid (show syncTo ⟨e, L⟩ ⟨f, M⟩ ⟨x, y, z⟩ = ((px == 0) && (pe == f && decide (pL = M))) by simp only [syncTo, hP, sameC_lit])
        have HP := Lib.hid hP
        have hHs := Lib.hid hs
        have hAl := hA.lt
        have hBl := hB.lt
        clear hc hs' hs hsw hP
        have a0 : wr.cell? ⟨w.heap.size, 0, none⟩ = some (.int .i64 e) := hA.cell rfl
        have a1 : wr.cell? ⟨w.heap.size, 1, none⟩ = some (.slice (some ⟨b, off, none⟩) L.length cap) := hA.cell rfl
        have e0 := World.new_ne wr _ a0
        have e1 := World.new_ne wr _ s0
        obtain ⟨wo, rfl⟩ : ∃ wo : World, wo = wr := ⟨_, rfl⟩
        go_upto_region 9 with (fail)
        go_cut [6, 7] from 29 to 53 (fun s6 s7 wx => ∃ (X : Nat) (a7 : Option Addr) (cap7 : Nat), s6 = .pointer (some ⟨X, 0, none⟩) ∧ s7 = .int .i64 px ∧ BlkAt wx X 24 [.int .i64 pe, .slice a7 pL.length cap7] ∧ ChainAt wx (.slice a7 pL.length cap7) pL ∧ BlkAt wx w.heap.size 24 [.int .i64 e, .slice (some ⟨b, off, none⟩) L.length cap] ∧ BlkAt wx B 24 [.int .i64 f, .slice a2 M.length cap2] ∧ Below w.heap.size w wx)
        case first =>
          go_region_held3 (fun w' => w'.cell? ⟨w.heap.size, 0, none⟩ = some (.int .i64 e) ∧ w'.cell? ⟨w.heap.size, 1, none⟩ = some (.slice (some ⟨b, off, none⟩) L.length cap) ∧ w'.cell? ⟨b, off + k * 3, none⟩ = some (.int .i64 x) ∧ w'.cell? ⟨b, off + k * 3 + 1, none⟩ = some (.int .i64 y))
            (first | exact ⟨c0, c1, r0, r1⟩ | exact ⟨cell_alloc_old c0 _, cell_alloc_old c1 _, cell_alloc_old r0 _, cell_alloc_old r1 _⟩ | exact ⟨cell_alloc_old a0 _, cell_alloc_old a1 _, cell_alloc_old s0 _, cell_alloc_old s1 _⟩ | exact ⟨cell_set_ne (cell_set_ne c0 e0.symm) e0.symm, cell_set_ne (cell_set_ne c1 e0.symm) e0.symm, cell_set_ne (cell_set_ne r0 e1.symm) e1.symm, cell_set_ne (cell_set_ne r1 e1.symm) e1.symm⟩ | go_keep)
            (first
              | (go_simp; go_at_call 17; refine (qcsynced_at (by exact hv.drew) hx hy HP.out).mono ?_; rintro en w6 ⟨a7, cap7, rfl, hv7, b6⟩; have hA6 := (hA.drew).below b6; have hB6 := (hB.drew).below b6; have hb6 : Below w.heap.size w w6 := below_step (by exact hb.drew) b6; have c0 : w6.cell? ⟨w.heap.size, 0, none⟩ = some (.int .i64 e) := hA6.cell rfl; have c1 : w6.cell? ⟨w.heap.size, 1, none⟩ = some (.slice (some ⟨b, off, none⟩) L.length cap) := hA6.cell rfl; obtain ⟨r0, r1, r2⟩ := HSW.out.of (w' := w6) fun j => hb6.cell (p := ⟨b, j, none⟩) hab)
              | (go_simp; go_at_call 17; refine (qcsynced_at (by exact (hv.alloc (.cells #[.int .i64 0, .slice none 0 0] 24)).drew) hx hy HP.out).mono ?_; rintro en w6 ⟨a7, cap7, rfl, hv7, b6⟩; have hA6 := ((hA.alloc (.cells #[.int .i64 0, .slice none 0 0] 24)).drew).below b6; have hB6 := ((hB.alloc (.cells #[.int .i64 0, .slice none 0 0] 24)).drew).below b6; have hb6 : Below w.heap.size w w6 := below_step (by exact (hb.alloc hb.size (.cells #[.int .i64 0, .slice none 0 0] 24)).drew) b6; have hX6 : BlkAt w6 wo.heap.size 24 [.int .i64 0, .slice none 0 0] := BlkAt.below (w := (wo.alloc (.cells #[.int .i64 0, .slice none 0 0] 24)).drew) (BlkAt.new wo 24 [.int .i64 0, .slice none 0 0]) b6; have x0 : w6.cell? ⟨wo.heap.size, 0, none⟩ = some (.int .i64 0) := hX6.cell rfl; have x1 : w6.cell? ⟨wo.heap.size, 1, none⟩ = some (.slice none 0 0) := hX6.cell rfl; have xf := hX6.free; have c0 : w6.cell? ⟨w.heap.size, 0, none⟩ = some (.int .i64 e) := hA6.cell rfl; have c1 : w6.cell? ⟨w.heap.size, 1, none⟩ = some (.slice (some ⟨b, off, none⟩) L.length cap) := hA6.cell rfl; obtain ⟨r0, r1, r2⟩ := HSW.out.of (w' := w6) fun j => hb6.cell (p := ⟨b, j, none⟩) hab))
          · go_wp2_with fail
            go_meet
            exact ⟨w6.heap.size, a7, cap7, rfl, rfl, BlkAt.new w6 24 [.int .i64 pe, .slice a7 pL.length cap7], hv7.alloc _, hA6.alloc _, hB6.alloc _, hb6.alloc hb6.size _⟩
          · have hX7 := (hX6.set 0 (.int .i64 pe)).set 1 (.slice a7 pL.length cap7)
            have hv8 := (hv7.set2 hX6 0 (.int .i64 pe)).set2 (hX6.set 0 (.int .i64 pe)) 1 (.slice a7 pL.length cap7)
            have hA7 := (hA6.grown (grown_setCell w6 wo.heap.size 0 (.int .i64 pe)) e0.symm).grown (grown_setCell _ wo.heap.size 1 (.slice a7 pL.length cap7)) e0.symm
            have hB7 := (hB6.grown (grown_setCell w6 wo.heap.size 0 (.int .i64 pe)) (by omega)).grown (grown_setCell _ wo.heap.size 1 (.slice a7 pL.length cap7)) (by omega)
            have hb7 := grown_below (grown_below hb6 (grown_setCell w6 wo.heap.size 0 (.int .i64 pe)) (by omega)) (grown_setCell _ wo.heap.size 1 (.slice a7 pL.length cap7)) (by omega)
            go_wp2_with fail
            go_meet
            exact ⟨wo.heap.size, a7, cap7, rfl, rfl, hX7, hv8, hA7, hB7, hb7⟩
        case rest =>
          obtain ⟨X, a7, cap7, rfl, rfl, hX, hv7, hA, hB, hb⟩ := hcut
          clear a0 a1 s0 s1 s2 e0 e1 hv hAl hBl
          by_cases hz : px = 0
          · subst hz
            have hu := hu0.below hb
            have a0 : wc.cell? ⟨X, 0, none⟩ = some (.int .i64 pe) := hX.cell rfl
            have a1 : wc.cell? ⟨X, 1, none⟩ = some (.slice a7 pL.length cap7) := hX.cell rfl
            have c0 : wc.cell? ⟨B, 0, none⟩ = some (.int .i64 f) := hB.cell rfl
            have c1 : wc.cell? ⟨B, 1, none⟩ = some (.slice a2 M.length cap2) := hB.cell rfl
            go_wp2_with fail
            refine (qcsame_any (by exact hv7) (by exact hu)).mono ?_
            rintro en w9 ⟨rfl, b9⟩
            rw [← sameC_lit]
            have hA := hA.below b9
            have hB := hB.below b9
            have hb := below_step hb b9
            clear b9
            clear a0 a1 c0 c1
            cases hq : sameC ⟨pe, pL⟩ ⟨f, M⟩ with
            | true =>
              have HE := Lib.hid (show qfollowsC ⟨e, L⟩ ⟨f, M⟩ = true by rw [H3.out, any_true HS.out (by rw [HE.out, ← sameC_lit, hq]; rfl)])
              go_wp2_with fail
              go_ret
              exact ⟨by rw [HE.out]; rfl, hb⟩
            | false =>
              have HN := Lib.hid (show syncTo ⟨e, L⟩ ⟨f, M⟩ ⟨x, y, z⟩ = false by rw [HE.out, ← sameC_lit, hq]; rfl)
              go_wp2_with fail
              go_roundw
              case rel => exact ⟨k + 1, by omega, by go_num, hA, hB, hb, fun j t hj hjt => by
                rcases Nat.lt_or_ge j k with h | h
                · exact A.out j t h hjt
                · obtain rfl : j = k := by omega
                  rw [HS.out] at hjt
                  obtain rfl := Option.some.inj hjt
                  exact HN.out⟩
              case measure => simp [intOf]; omega
          · have hz' : (px == 0) = false := by simpa using hz
            have HN := Lib.hid (show syncTo ⟨e, L⟩ ⟨f, M⟩ ⟨x, y, z⟩ = false by rw [HE.out, hz']; rfl)
            go_wp2_with fail
            go_roundw
            case rel => exact ⟨k + 1, by omega, by go_num, hA, hB, hb, fun j t hj hjt => by
              rcases Nat.lt_or_ge j k with h | h
              · exact A.out j t h hjt
              · obtain rfl : j = k := by omega
                rw [HS.out] at hjt
                obtain rfl := Option.some.inj hjt
                exact HN.out⟩
            case measure => simp [intOf]; omega
      · obtain rfl : k = L.length := by omega
        have HE := Lib.hid (show qfollowsC ⟨e, L⟩ ⟨f, M⟩ = false by rw [H3.out, any_false A.out])
        have a1 : wr.cell? ⟨w.heap.size, 1, none⟩ = some (.slice a L.length cap) := hA.cell rfl
        go_wp2_with fail
        go_ret
        exact ⟨by rw [HE.out]; rfl, hb⟩
  · have H3 := Lib.hid (show qfollowsC ⟨e, L⟩ ⟨f, M⟩ = if f = e + 1 then if joinTo ⟨e, L⟩ ⟨f, M⟩ (lastC M).1 (lastC M).2.1 = true then true else decide (greedy M 0 L = M.length) else false by rw [H2.out, if_neg hef])
    have hef' : (e == f) = false := by simpa using hef
    have HF := Lib.hid hef
    clear hef
    by_cases hfe : f = e + 1
    · have H4 := Lib.hid (show qfollowsC ⟨e, L⟩ ⟨f, M⟩ = if joinTo ⟨e, L⟩ ⟨f, M⟩ (lastC M).1 (lastC M).2.1 = true then true else decide (greedy M 0 L = M.length) by rw [H3.out, if_pos hfe])
      have hfe' : (f == e + 1) = true := by simpa using hfe
      have hfe'' : (f != e + 1) = false := by simpa using hfe
      have HFE := Lib.hid hfe
      obtain ⟨s, hs'⟩ : ∃ s, M[M.length - 1]? = some s := ⟨_, List.getElem?_eq_getElem (by omega)⟩
      have hok := hMok s (List.mem_of_getElem? hs')
      obtain ⟨b, off, rfl, hab, hc⟩ := hs2.2.2 (by omega)
      obtain ⟨s0, s1, s2⟩ := (hc _ s hs').of (w' := w4) fun j => hb.cell (p := ⟨b, j, none⟩) hab
      obtain ⟨x, y, z⟩ := s
      obtain ⟨hx, hy⟩ := hok
      simp only at s0 s1 s2 hx hy
      have H5 := Lib.hid (show qfollowsC ⟨e, L⟩ ⟨f, M⟩ = if joinTo ⟨e, L⟩ ⟨f, M⟩ x y = true then true else decide (greedy M 0 L = M.length) by
        rw [H4.out]
        have : lastC M = (x, y, true) := by
          rw [lastC, show (M.length : Int) - 1 = ((M.length - 1 : Nat) : Int) by omega]
          exact atC_in hs'
        rw [this])
      have hHs2 := Lib.hid hs2
      obtain ⟨q, hqe⟩ : ∃ q, M.length = q + 1 := ⟨M.length - 1, by omega⟩
      have hql : (M.length : Int) - 1 = (q : Int) := by omega
      have hqq : M.length - 1 = q := by omega
      rw [hqq] at s0 s1 s2
      have hq0 : (q : Int) < (M.length : Int) := by omega
      have HQ := Lib.hid hqe
      clear hfe hc hs' hs2 hqe hqq
      go_upto_region 16 with (fail)
      have hT := BlkAt.new w4 27 [.int .i64 x, .int .i64 y]
      have hA := hA.alloc (.cells #[.int .i64 x, .int .i64 y] 27)
      have hB := hB.alloc (.cells #[.int .i64 x, .int .i64 y] 27)
      have hv := hv.alloc (.cells #[.int .i64 x, .int .i64 y] 27)
      have hu := hu.alloc (.cells #[.int .i64 x, .int .i64 y] 27)
      have hb := hb.alloc hb.size (.cells #[.int .i64 x, .int .i64 y] 27)
      have hWq : w.heap.size + 2 ≤ (w4.alloc (.cells #[.int .i64 x, .int .i64 y] 27)).heap.size := by simp; omega
      have hTs : w4.heap.size + 1 ≤ (w4.alloc (.cells #[.int .i64 x, .int .i64 y] 27)).heap.size := by simp
      have hT0 : w.heap.size ≠ w4.heap.size := by omega
      have hTB : B ≠ w4.heap.size := by omega
      have hTn : w.heap.size ≤ w4.heap.size := by omega
      clear hWs
      have hWs := hWq
      clear hWq
      change Code.wp _ _ _ _ (w4.alloc (.cells #[.int .i64 x, .int .i64 y] 27))
      change BlkAt (w4.alloc (.cells #[.int .i64 x, .int .i64 y] 27)) _ _ _ at hT
      generalize w4.alloc (.cells #[.int .i64 x, .int .i64 y] 27) = w5 at *
      generalize w4.heap.size = T at *
      clear s0 s1 s2 a0 a1 c0 c1 hTs
      have a0 : w5.cell? ⟨w.heap.size, 0, none⟩ = some (.int .i64 e) := hA.cell rfl
      have a1 : w5.cell? ⟨w.heap.size, 1, none⟩ = some (.slice a L.length cap) := hA.cell rfl
      have t0 : w5.cell? ⟨T, 0, none⟩ = some (.int .i64 x) := hT.cell rfl
      have t1 : w5.cell? ⟨T, 1, none⟩ = some (.int .i64 y) := hT.cell rfl
      obtain ⟨pe, pL, px, hP⟩ := conf_parts (joinC ⟨e, L⟩ x y)
      have HJ := Lib.hid (show joinTo ⟨e, L⟩ ⟨f, M⟩ x y = ((px == 0) && (pe == f && decide (pL = M))) by simp only [joinTo, hP, sameC_lit])
      have HP := Lib.hid hP
      clear hP
      go_wp2_with fail
      refine (qcjoin_at (by exact hv) hx hy HP.out).mono ?_
      rintro en w7 ⟨a7, cap7, rfl, hv7, b7⟩
      have hA := hA.below b7
      have hB := hB.below b7
      have hv := hv.below b7
      have hu := hu.below b7
      have hWs : w.heap.size + 2 ≤ w7.heap.size := by have := b7.size; omega
      have hb := below_step hb b7
      clear b7
      clear a0 a1 t0 t1 hT
      go_upto_region 17 with (fail)
      have hC := BlkAt.new w7 24 [.int .i64 pe, .slice a7 pL.length cap7]
      have hA := hA.alloc (.cells #[.int .i64 pe, .slice a7 pL.length cap7] 24)
      have hB := hB.alloc (.cells #[.int .i64 pe, .slice a7 pL.length cap7] 24)
      have hv := hv.alloc (.cells #[.int .i64 pe, .slice a7 pL.length cap7] 24)
      have hu := hu.alloc (.cells #[.int .i64 pe, .slice a7 pL.length cap7] 24)
      have hv7 := hv7.alloc (.cells #[.int .i64 pe, .slice a7 pL.length cap7] 24)
      have hb := hb.alloc hb.size (.cells #[.int .i64 pe, .slice a7 pL.length cap7] 24)
      have hWq : w.heap.size + 2 ≤ (w7.alloc (.cells #[.int .i64 pe, .slice a7 pL.length cap7] 24)).heap.size := by simp; omega
      have hCs : w7.heap.size + 1 ≤ (w7.alloc (.cells #[.int .i64 pe, .slice a7 pL.length cap7] 24)).heap.size := by simp
      have hC0 : w.heap.size ≠ w7.heap.size := by omega
      have hCB : B ≠ w7.heap.size := by omega
      have hCn : w.heap.size ≤ w7.heap.size := by omega
      clear hWs
      have hWs := hWq
      clear hWq
      change Code.wp _ _ _ _ (w7.alloc (.cells #[.int .i64 pe, .slice a7 pL.length cap7] 24))
      change BlkAt (w7.alloc (.cells #[.int .i64 pe, .slice a7 pL.length cap7] 24)) _ _ _ at hC
      generalize w7.alloc (.cells #[.int .i64 pe, .slice a7 pL.length cap7] 24) = w8 at *
      generalize w7.heap.size = C at *
      clear hCs
      go_cut [81] (fun s wx => ∃ q : Bool, s = .bool q ∧ Aside (joinTo ⟨e, L⟩ ⟨f, M⟩ x y = q) ∧ BlkAt wx w.heap.size 24 [.int .i64 e, .slice a L.length cap] ∧ BlkAt wx B 24 [.int .i64 f, .slice (some ⟨b, off, none⟩) M.length cap2] ∧ Below w.heap.size w wx)
      case first =>
        by_cases hz : px = 0
        · subst hz
          have a0 : w8.cell? ⟨C, 0, none⟩ = some (.int .i64 pe) := hC.cell rfl
          have a1 : w8.cell? ⟨C, 1, none⟩ = some (.slice a7 pL.length cap7) := hC.cell rfl
          have c0 : w8.cell? ⟨B, 0, none⟩ = some (.int .i64 f) := hB.cell rfl
          have c1 : w8.cell? ⟨B, 1, none⟩ = some (.slice (some ⟨b, off, none⟩) M.length cap2) := hB.cell rfl
          go_wp2_with fail
          refine (qcsame_any (by exact hv7) (by exact hu)).mono ?_
          rintro en w9 ⟨rfl, b9⟩
          have hA := hA.below b9
          have hB := hB.below b9
          have hb := below_step hb b9
          clear b9
          go_wp2_with fail
          go_meet
          exact ⟨_, rfl, by rw [HJ.out]; rfl, hA, hB, hb⟩
        · have hz' : (px == 0) = false := by simpa using hz
          have HE := Lib.hid (show joinTo ⟨e, L⟩ ⟨f, M⟩ x y = false by rw [HJ.out, hz']; rfl)
          go_wp2_with fail
          go_meet
          exact ⟨_, rfl, HE.out, hA, hB, hb⟩
      case rest =>
        obtain ⟨jt, rfl, HQ, hA, hB, hb⟩ := hcut
        clear hC hv7 hv hu hWs
        cases jt with
        | true =>
          have HE := Lib.hid (show qfollowsC ⟨e, L⟩ ⟨f, M⟩ = true by rw [H5.out, HQ.out, if_pos rfl])
          go_wp2_with fail
          go_ret
          exact ⟨by rw [HE.out]; rfl, hb⟩
        | false =>
          have H6 := Lib.hid (show qfollowsC ⟨e, L⟩ ⟨f, M⟩ = decide (greedy M 0 L = M.length) by rw [H5.out, HQ.out, if_neg (by simp)])
          go_wp2_with fail
          go_loopw [11, 12] (fun g i wr => ∃ k p : Nat, k ≤ L.length ∧ i = .int .i64 k ∧ p ≤ M.length ∧ g = .int .i64 p ∧ Aside (greedy M 0 (L.take k) = p) ∧ BlkAt wr w.heap.size 24 [.int .i64 e, .slice a L.length cap] ∧ BlkAt wr B 24 [.int .i64 f, .slice (some ⟨b, off, none⟩) M.length cap2] ∧ Below w.heap.size w wr) (fun _ i _ => L.length - (intOf i).toNat)
          case atStart => exact ⟨0, 0, Nat.zero_le _, rfl, Nat.zero_le _, rfl, rfl, hA, hB, hb⟩
          case round =>
            obtain ⟨k, p, hk, rfl, hp, rfl, HG, hA, hB, hb⟩ := hrel
            have a1 : wr.cell? ⟨w.heap.size, 1, none⟩ = some (.slice a L.length cap) := hA.cell rfl
            have b1 : wr.cell? ⟨B, 1, none⟩ = some (.slice (some ⟨b, off, none⟩) M.length cap2) := hB.cell rfl
            by_cases hlt : k < L.length
            · obtain ⟨b', off', rfl, hab', hc⟩ := hs.2.2 (by omega)
              obtain ⟨s, hs'⟩ : ∃ s, L[k]? = some s := ⟨_, List.getElem?_eq_getElem hlt⟩
              obtain ⟨s0, s1, s2⟩ := (hc k s hs').of (w' := wr) fun j => hb.cell (p := ⟨b', j, none⟩) hab'
              obtain ⟨x1, y1, z1⟩ := s
              simp only at s0 s1 s2
              have HN := Lib.hid (show greedy M 0 (L.take (k + 1)) = if M[p]? = some ⟨x1, y1, z1⟩ then p + 1 else p by rw [take_snoc hs', greedy_snoc, HG.out])
              have hHs := Lib.hid hs
              clear hc hs' hs
              by_cases hpl : p < M.length
              · obtain ⟨b2, off2, he2', hab2, hc⟩ := hHs2.out.2.2 (by omega)
                obtain ⟨rfl, rfl⟩ : b2 = b ∧ off2 = off := by cases he2'; exact ⟨rfl, rfl⟩
                obtain ⟨t, ht'⟩ : ∃ t, M[p]? = some t := ⟨_, List.getElem?_eq_getElem hpl⟩
                obtain ⟨r0, r1, r2⟩ := (hc p t ht').of (w' := wr) fun j => hb.cell (p := ⟨_, j, none⟩) hab2
                obtain ⟨x2, y2, z2⟩ := t
                simp only at r0 r1 r2
                rw [ht'] at HN
                have hse := seat_eql x1 y1 x2 y2 z1 z2
                clear hc ht' he2'
                have hse2 : (∀ w, (Go.binOp .eql 50 (.agg #[.int .i64 x1, .int .i64 y1, .bool z1]) (.agg #[.int .i64 x2, .int .i64 y2, .bool z2])).run Try.prog w = .ok (.bool (decide ((⟨x1, y1, z1⟩ : SeatV) = ⟨x2, y2, z2⟩))) w) := hse
                clear hse
                cases hd : decide ((⟨x1, y1, z1⟩ : SeatV) = ⟨x2, y2, z2⟩) with
                | true =>
                  rw [hd] at hse2
                  have HM := Lib.hid (show greedy M 0 (L.take (k + 1)) = p + 1 by rw [HN.out, if_pos (by rw [of_decide_eq_true hd])])
                  clear hd
                  go_wp2_with fail
                  go_quiet (fail)
                  go_wp2_with fail
                  go_roundw
                  case rel => exact ⟨k + 1, p + 1, by omega, by go_num, by omega, by go_num, HM.out, hA.drewN nq, hB.drewN nq, below_drewN hb nq⟩
                  case measure => simp [intOf]; omega
                | false =>
                  rw [hd] at hse2
                  have HM := Lib.hid (show greedy M 0 (L.take (k + 1)) = p by rw [HN.out, if_neg (fun h => (of_decide_eq_false hd) (by injection h with h; exact h.symm))])
                  clear hd
                  go_wp2_with fail
                  go_quiet (fail)
                  go_wp2_with fail
                  go_roundw
                  case rel => exact ⟨k + 1, p, by omega, by go_num, hp, rfl, HM.out, hA.drewN nq, hB.drewN nq, below_drewN hb nq⟩
                  case measure => simp [intOf]; omega
              · have HM := Lib.hid (show greedy M 0 (L.take (k + 1)) = p by rw [HN.out, List.getElem?_eq_none (by omega), if_neg (by simp)])
                have hpl' : ¬ (p : Int) < (M.length : Int) := by omega
                have hpd : decide ((p : Int) < (M.length : Int)) = false := by simpa using hpl
                have hpd2 : decide (p < M.length) = false := by simpa using hpl
                go_wp2_with fail
                go_quiet (fail)
                go_wp2_with fail
                go_roundw
                case rel => exact ⟨k + 1, p, by omega, by go_num, hp, rfl, HM.out, hA.drewN nq, hB.drewN nq, below_drewN hb nq⟩
                case measure => simp [intOf]; omega
            · obtain rfl : k = L.length := by omega
              have HE := Lib.hid (show qfollowsC ⟨e, L⟩ ⟨f, M⟩ = ((p : Int) == (M.length : Int)) by
                rw [H6.out, ← HG.out, List.take_of_length_le (Nat.le_refl _), Bool.eq_iff_iff]
                simp
                omega)
              go_wp2_with fail
              go_ret
              exact ⟨by rw [HE.out]; rfl, hb⟩
    · have HE := Lib.hid (show qfollowsC ⟨e, L⟩ ⟨f, M⟩ = false by rw [H3.out, if_neg hfe])
      have hfe' : (f == e + 1) = false := by simpa using hfe
      have hfe'' : (f != e + 1) = true := by simpa using hfe
      go_wp2_with fail
      go_ret
      exact ⟨by rw [HE.out]; rfl, hb⟩
end Go.Proofs.Ytofdmdpnobhnlaa
