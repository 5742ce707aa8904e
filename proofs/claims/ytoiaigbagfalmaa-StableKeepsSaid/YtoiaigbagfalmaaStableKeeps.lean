/- StableKeeps: for every script the law answers true. No condition. -/
import Derived.Test.YtoiaigbagfalmaaStKeep
namespace Go.Proofs.Ytoiaigbagfalmaa
open Go.RowKit Go.ChangeShapes Go.WideShapes Go.Joins Go.Deep
set_option linter.unusedVariables false

set_option maxRecDepth 100000 in
set_option maxHeartbeats 8000000 in

theorem StableKeeps_go {w : World} {a : Option Addr} {cap : Nat} {S : List SOp} (hS : SOpsAt w a S) :
    Calls Try.prog 5 #[.slice a S.length cap] w fun e w' => e = .returned (.bool true) ∧ Below w.heap.size w w' := by
  obtain ⟨i0, hi0, hz0, hz1, hz2⟩ := strs_info
  have hlen := hS.1
  unfold maxLen at hlen
  have HS := Lib.hid hS
  clear hS
  go_enter Try.func5, Try.ntmps5
  go_wp2_with fail
  refine (awake_any _).mono ?_
  rintro e w1 ⟨rfl, hb⟩
  go_wp2_with fail
  have hS1 : SOpsAt w1 a S := ⟨HS.out.1, HS.out.2.1, fun hp => by
    obtain ⟨b, off, h1, h2, h3⟩ := HS.out.2.2 hp
    exact ⟨b, off, h1, Nat.lt_of_lt_of_le h2 hb.size, fun i o hi => (h3 i o hi).of fun j => hb.cell (p := ⟨b, j, none⟩) h2⟩⟩
  refine (long_any hS1).mono ?_
  rintro e w2 ⟨q, rfl, b2, hq⟩
  have hb := below_step hb b2
  clear hS1 b2
  cases q with
  | true =>
    clear hq
    go_wp2_with fail
    refine (awake_any _).mono ?_
    rintro e w3 ⟨rfl, b3⟩
    have hb := below_step hb b3
    go_wp2_with fail
    go_ret
    exact ⟨rfl, hb⟩
  | false =>
    obtain ⟨hSl, hSs⟩ := hq rfl
    have HSS := Lib.hid hSs
    clear hSs hq
    go_wp2_with fail
    refine (new_log _).mono ?_
    rintro e w3 ⟨b, rfl, hL, b3⟩
    have hsz := hb.size
    have hL := hL.base hsz
    have hb := below_step hb b3
    have hbn := hL.1
    clear b3
    go_wp2_with fail
    go_loopw [4, 18] (fun kv i wr => ∃ (k : Nat) (K : List (List UInt8)) (v : Value), k ≤ S.length ∧ i = .int .i64 k ∧ LogAt w.heap.size wr b v (recs K) false ∧ (recs K).length ≤ 65536 ∧ StrsO w.heap.size wr kv K ∧ Below w.heap.size w wr) (fun _ i _ => S.length - (intOf i).toNat)
    case atStart => exact ⟨0, [], _, Nat.zero_le _, rfl, hL, by simp [recs], World.ownsRow_nil _ _ _ _, hb⟩
    case round =>
      clear hL hb hsz
      obtain ⟨k, K, v, hk, rfl, hL, hKl, hO, hb⟩ := hrel
      obtain ⟨ak, ck, rfl⟩ := own_form' hO
      have hKn := Nat.le_trans (recs_count (K := K)) hKl
      by_cases hlt : k < S.length
      · obtain ⟨bs, off, rfl, hab, hc⟩ := HS.out.2.2 (by omega)
        obtain ⟨o, ho⟩ : ∃ o, S[k]? = some o := ⟨_, List.getElem?_eq_getElem hlt⟩
        obtain ⟨s0, s1, s2⟩ := (hc k o ho).of (w' := wr) fun j => hb.cell (p := ⟨bs, j, none⟩) hab
        have hsl := HSS.out o (List.mem_of_getElem? ho)
        obtain ⟨kd, kp, s⟩ := o
        simp only at s0 s1 s2 hsl
        clear hc ho
        have hbT := hL.lt
        have hrT := hL.rowlt
        have hoT := fun j hj => (World.ownsRow.lt hO j hj).2
        go_upto_region 8 with (fail)
        have hT := BlkAt.new wr 36 [.int .i64 kd, .int .i64 kp, .string ⟨s.toArray⟩]
        have hL := hL.alloc (.cells #[.int .i64 kd, .int .i64 kp, .string ⟨s.toArray⟩] 36)
        have hO := hO.alloc (.cells #[.int .i64 kd, .int .i64 kp, .string ⟨s.toArray⟩] 36)
        have hb := hb.alloc hb.size (.cells #[.int .i64 kd, .int .i64 kp, .string ⟨s.toArray⟩] 36)
        change Code.wp _ _ _ _ (wr.alloc (.cells #[.int .i64 kd, .int .i64 kp, .string ⟨s.toArray⟩] 36))
        change BlkAt (wr.alloc (.cells #[.int .i64 kd, .int .i64 kp, .string ⟨s.toArray⟩] 36)) _ _ _ at hT
        generalize wr.alloc (.cells #[.int .i64 kd, .int .i64 kp, .string ⟨s.toArray⟩] 36) = v1_0 at *
        generalize wr.heap.size = T at *
        clear s0 s1 s2
        have hBw := hb.size
        by_cases hkd : kd = 2
        · subst hkd
          have fhT0 : v1_0.cell? ⟨T, 0, none⟩ = some (.int .i64 2) := hT.cell rfl
          have fhT1 : v1_0.cell? ⟨T, 1, none⟩ = some (.int .i64 kp) := hT.cell rfl
          have fhT2 : v1_0.cell? ⟨T, 2, none⟩ = some (.string ⟨s.toArray⟩) := hT.cell rfl
          go_wp2_with fail
          refine (crash_any (by exact hL) hKl (by unfold maxLen; omega) hBw kp).mono ?_
          rintro e w5 ⟨rfl, ⟨v', hL5⟩, hkp⟩
          clear fhT0 fhT1 fhT2
          have hb := hkp.below hb hbn hL.row
          have hO := hO.kept hL hkp (.inr rfl)
          have hT := blk_keptL hT hkp hbT hrT
          clear hkp hL
          rcases writeS_cases (recs K) s kp with ⟨x, hx0, hw⟩ | ⟨h1, h2, hw⟩
          · rw [tornS, hw] at hL5
            rw [hw]
            simp only [if_neg hx0] at hL5
            have hx0' : (x != 0) = true := by simpa using hx0
            have HL := Lib.hid hL5
            have HO := Lib.hid hO
            have HB := Lib.hid hb
            clear hL5 hO hb hT hw
            go_wp2_with fail
            go_roundw
            case rel => exact ⟨k + 1, K, v', by omega, by go_num, HL.out, hKl, HO.out, HB.out⟩
            case measure => simp [intOf]; omega
          · rw [tornS, hw] at hL5
            rw [hw]
            simp only [if_true] at hL5
            have hjl := keepS_le s kp
            generalize keepS s kp = j at *
            have hl5 : (recs K ++ (bytesS s).take j).length ≤ 65536 := by rw [List.length_append, List.length_take]; omega
            have hsz5 := hb.size
            have hoT5 := fun j hj => (World.ownsRow.lt hO j hj).2
            clear hw
            go_wp2_with fail
            refine (recover_any (by exact hL5) hl5).mono ?_
            rintro e w6 ⟨ax, cx, rfl, hx, ⟨v6, hL6⟩, hk6⟩
            have hb := hk6.below hb hbn (by intro j hj; cases hj)
            have hO := hO.kept hL5 hk6 (.inl rfl)
            have hT := blk_keptL hT hk6 hbT (by intro j hj; cases hj)
            clear hk6 hL5
            rcases crash_scan (recs_small hKl) h1 hjl with ⟨hsc, heq⟩ | hsc
            · rw [hsc] at hx hL6 ⊢
              simp only at hx hL6 ⊢
              rw [heq, List.take_length] at hL6
              have hKl6 : (recs (K ++ [s])).length ≤ 65536 := by rw [← heq]; exact hl5
              have hlx : ((K ++ [s]).length : Int) = (K.length : Int) + 1 := by simp
              have hlx2 : (K ++ [s]).length = K.length + 1 := by simp
              clear hsc heq hl5
              rw [hlx2] at hx ⊢
              have HX := Lib.hid hx
              have t2 : w6.cell? ⟨T, 2, none⟩ = some (.string ⟨s.toArray⟩) := hT.cell rfl
              clear hx hlx hlx2
              go_wp2_with (at_builtin; refine wpList_append_lies _ rfl (.tmp 50) (.tmp 53) 23 rfl w.heap.size 9 i0 _ 1 16 Try.underlying23 hi0 hz0 hz1 hz2 rfl (by omega) _ _ _ rfl (World.ownsRow.alloc hO _) ⟨w6.heap.size, 0, none⟩ 1 1 [.string ⟨s.toArray⟩] rfl rfl ?c1 ?c2 (by omega) ?c3 ?c4 ?c5 (w6.heap.size + 1) (by simp) ?_)
              case c1 => first | exact World.news_of_block (heap_alloc_new _ _) | exact fun _ _ h => h
              case c2 => intro u hu; simp at hu; rcases hu with rfl; rfl
              case c3 => unfold maxLen; omega
              case c4 => omega
              case c5 => have := hb.size; first | omega | (simp; omega)
              intro g' cap' w' hown' hg' hat' hlt'
              have hb2 : Below w.heap.size w w' := (hb.alloc hb.size _).grown hg' (by have := hb.size; simp; omega) (fun j hj => by have := (World.ownsRow.lt hO j hj).1; omega)
              have hL7 := (hL6.alloc (.cells #[.string ⟨s.toArray⟩] 9)).grownRow (StrsO.alloc hO _) hg'
              have hx7 : StrsO w5.heap.size w' (.slice ax (K.length + 1) cx) (K ++ [s]) := StrsO.grownApart (StrsO.alloc HX.out _) hoT5 hg'
              have hxv := hx7.v
              have ho7 := StrsO.snoc hown'
              have hov := ho7.v
              have HL := Lib.hid hL7
              have HO := Lib.hid ho7
              clear hL7 hown' hg' hat' hlt' hL6 hO hb hT t2 hx7 ho7
              go_wp2_with fail
              refine (same_any (by exact hxv) (by exact hov)).mono ?_
              rintro e w8 ⟨rfl, b8⟩
              have HL := Lib.hid (HL.out.below b8)
              have HO := Lib.hid (HO.out.below b8)
              have HB := Lib.hid (below_step hb2 b8)
              rw [show decide (K ++ [s] = K ++ [s]) = true by simp]
              clear b8 hb2 hxv hov
              go_wp2_with fail
              go_roundw
              case rel => exact ⟨k + 1, K ++ [s], v6, by omega, by go_num, HL.out, hKl6, by simpa using HO.out, HB.out⟩
              case measure => simp [intOf]; omega
            · rw [hsc] at hx hL6 ⊢
              simp only [List.take_left' rfl] at hx hL6 ⊢
              clear hsc hl5 hT
              have hne : ((K.length : Int) == (K.length : Int) + 1) = false := by simp; omega
              go_wp2_with fail
              refine (same_any (by exact hx.v) (by exact hO.v)).mono ?_
              rintro e w7 ⟨rfl, b7⟩
              have hL6 := hL6.below b7
              have hO := hO.below b7
              have hb := below_step hb b7
              rw [show decide (K = K) = true by simp]
              clear b7 hx
              have HL := Lib.hid hL6
              have HO := Lib.hid hO
              have HB := Lib.hid hb
              clear hL6 hO hb
              go_wp2_with fail
              go_roundw
              case rel => exact ⟨k + 1, K, v6, by omega, by go_num, HL.out, hKl, HO.out, HB.out⟩
              case measure => simp [intOf]; omega
        · have hkd' : (kd != 2) = true := by simpa using hkd
          have fhT0 : v1_0.cell? ⟨T, 0, none⟩ = some (.int .i64 kd) := hT.cell rfl
          have fhT1 : v1_0.cell? ⟨T, 1, none⟩ = some (.int .i64 kp) := hT.cell rfl
          have fhT2 : v1_0.cell? ⟨T, 2, none⟩ = some (.string ⟨s.toArray⟩) := hT.cell rfl
          go_wp2_with fail
          refine (append_any (by exact hL) hKl (by unfold maxLen; omega) hBw).mono ?_
          rintro e w5 ⟨rfl, ⟨v', hL5⟩, hkp⟩
          clear fhT0 fhT1 fhT2
          have hb := hkp.below hb hbn hL.row
          have hO := hO.kept hL hkp (.inr rfl)
          have hT := blk_keptL hT hkp hbT hrT
          clear hkp hL
          rcases writeS_cases (recs K) s 1099511627776 with ⟨x, hx0, hw⟩ | ⟨h1, h2, hw⟩
          · rw [hw] at hL5 ⊢
            simp only at hL5 ⊢
            have hx0' : (x == 0) = false := by simpa using hx0
            have HL := Lib.hid hL5
            have HO := Lib.hid hO
            have HB := Lib.hid hb
            clear hL5 hO hb hT hw
            go_wp2_with fail
            go_roundw
            case rel => exact ⟨k + 1, K, v', by omega, by go_num, HL.out, hKl, HO.out, HB.out⟩
            case measure => simp [intOf]; omega
          · rw [hw, keepS_all h1, ← recs_snoc] at hL5
            rw [hw]
            simp only at hL5 ⊢
            have hKl6 : (recs (K ++ [s])).length ≤ 65536 := by rw [recs_snoc, List.length_append]; exact h2
            have t2 : w5.cell? ⟨T, 2, none⟩ = some (.string ⟨s.toArray⟩) := hT.cell rfl
            clear hw h2
            go_wp2_with (at_builtin; refine wpList_append_lies _ rfl (.tmp 30) (.tmp 33) 23 rfl w.heap.size 9 i0 _ 1 16 Try.underlying23 hi0 hz0 hz1 hz2 rfl (by omega) _ _ _ rfl (World.ownsRow.alloc hO _) ⟨w5.heap.size, 0, none⟩ 1 1 [.string ⟨s.toArray⟩] rfl rfl ?c1 ?c2 (by omega) ?c3 ?c4 ?c5 (w5.heap.size + 1) (by simp) ?_)
            case c1 => first | exact World.news_of_block (heap_alloc_new _ _) | exact fun _ _ h => h
            case c2 => intro u hu; simp at hu; rcases hu with rfl; rfl
            case c3 => unfold maxLen; omega
            case c4 => omega
            case c5 => have := hb.size; first | omega | (simp; omega)
            intro g' cap' w' hown' hg' hat' hlt'
            have hb2 : Below w.heap.size w w' := (hb.alloc hb.size _).grown hg' (by have := hb.size; simp; omega) (fun j hj => by have := (World.ownsRow.lt hO j hj).1; omega)
            have hL7 := (hL5.alloc (.cells #[.string ⟨s.toArray⟩] 9)).grownRow (StrsO.alloc hO _) hg'
            have HL := Lib.hid hL7
            have HO := Lib.hid (StrsO.snoc hown')
            have HB := Lib.hid hb2
            clear hL7 hown' hb2 hg' hat' hlt' hL5 hO hb hT t2
            go_wp2_with fail
            go_roundw
            case rel => exact ⟨k + 1, K ++ [s], v', by omega, by go_num, HL.out, hKl6, by simpa using HO.out, HB.out⟩
            case measure => simp [intOf]; omega
      · obtain rfl : k = S.length := by omega
        go_wp2_with fail
        refine (all_any (by exact hL) hKl).mono ?_
        rintro e w5 ⟨ax, cx, rfl, hx, b5⟩
        have hO := hO.below b5
        have hb := below_step hb b5
        have hx := hx.v
        rw [scan_all K (recs_small hKl)] at hx ⊢
        simp only at hx ⊢
        go_wp2_with fail
        refine (same_any (by exact hx) (by exact hO.v)).mono ?_
        rintro e w6 ⟨rfl, b6⟩
        have hb := below_step hb b6
        rw [show decide (K = K) = true by simp]
        go_wp2_with fail
        go_ret
        exact ⟨rfl, hb⟩

set_option maxRecDepth 100000 in
theorem StableKeeps_walk {H : Type} {enc : TypeId × Value → H} {base : Nat} {d : DataW H} {p : List MemPlace} (v : Value) (w : World) (hv : Value.okWide Try.prog w .any base 31 v) (ht : DataW.Trod enc Try.prog w 0 (fun _ => true) true 31 v d p) :
    Calls Try.prog 5 #[v] w fun e w' => e = .returned (.bool true) ∧ Below w.heap.size w w' := by
  obtain ⟨a, S, cap, rfl, hS⟩ := open_sops hv ht
  exact StableKeeps_go hS


set_option maxRecDepth 100000 in
theorem StableKeeps_calls (H : Type) (enc : TypeId × Value → H) (W : World) (base : Nat) (args : Array Value) (ds gs : List (DataW H)) (before : List MemPlace)
    (hval : ∀ (j : Nat) t v, Try.f5.params[j]? = some t → args[j]? = some v → Value.okWide Try.prog W .any base t v)
    (hW : DataW.Whole enc Try.prog Try.f5.params.toList Rows.stableKeepsSpec.vars false W args.toList ds gs before) :
    Calls Try.prog 5 args W fun e W' => e = .returned (.bool true) ∧ Below W.heap.size W W' := by
  obtain ⟨p, q, hA, hV, rfl, hfz, hnd⟩ := hW
  rw [Try.params5] at hA hval
  obtain ⟨v0, vs0, d0, ds0, p0, q0, hargs, rfl, rfl, h0, r0⟩ := trodAll_cons hA
  obtain ⟨rfl, rfl, rfl⟩ := trodAll_nil r0
  obtain rfl : args = #[v0] := Array.toList_inj.1 hargs

  exact StableKeeps_walk v0 W (hval 0 31 v0 rfl rfl) h0

set_option maxRecDepth 100000 in
theorem StableKeeps_lifted (os : Os) (started : os.Started) (H : Type) (enc : TypeId × Value → H) :
    ReturnsInHanded {} Try.checked os 5 .any (Rows.stableKeepsSpec.pre6 enc Try.prog Try.f5 Rows.stableKeepsRow.domain false) (Rows.stableKeepsSpec.post enc Try.prog Try.f5 false true false false) := by
  refine returnsInHanded_of_change (C := Try.checked) own started (by kernel_rfl) Try.func5
    (ChangeSpec.witness6 (enc := enc) (C := Try.checked) false ⟨#[], #[.slice none 0 0], []⟩ 8 (by kernel_rfl) (by kernel_rfl) (by kernel_rfl) (by kernel_rfl)) ?_
  intro W base args ds gs before hval0 hW hcnd _
  have hval : ∀ (j : Nat) t v, Try.f5.params[j]? = some t → args[j]? = some v → Value.okWide Try.prog W .any base t v := hval0
  refine (StableKeeps_calls H enc W base args ds gs before hval hW).mono fun e W' ⟨he, bel⟩ => ?_
  exact ⟨_, he, law_post (ts := [31]) (by rw [Try.params5]) (by intro t ht; simp only [List.mem_cons, List.not_mem_nil, or_false] at ht; subst ht <;> exact ⟨by kernel_rfl, of_decide_eq_true (by kernel_rfl)⟩) hW rfl
    (fun ds h => by match ds, h with | [_], _ => rfl) (by kernel_rfl) bel⟩

theorem StableKeeps_over : Rows.stableKeepsRow.holds Try.pinned (OpenSpec.ofChange Rows.stableKeepsSpec) :=
  OpenClaim.holds_of_wide 5 Try.f5 rfl rfl rfl rfl rfl rfl rfl ⟨rfl, rfl, rfl, rfl, rfl⟩ rfl rfl rfl rfl rfl (by kernel_rfl) Try.func5 (by kernel_rfl)
    (of_decide_eq_true (by kernel_rfl)) (by unfold Func.isWrapper; first | (rw [if_pos (by decide +kernel)]; kernel_rfl) | (rw [if_neg (by decide +kernel)]; exact ⟨rfl, rfl⟩))
    (fun os started H enc _ => StableKeeps_lifted os started H enc)

/-- The statement. -/
theorem StableKeeps_proved : Rows.StableKeepsSaid := StableKeeps_over

end Go.Proofs.Ytoiaigbagfalmaa
