/- CodecFails: for every bytes, error and script the law answers true. No condition. -/
import Derived.Test.YtkmcppnbbppokaaCodecWrites
import Derived.Deep.Slices
namespace Go.Proofs.Ytkmcppnbbppokaa
open Go.RowKit Go.ChangeShapes Go.WideShapes Go.Joins Go.Deep
open Go.ChangeMaps (open_string shut_string)
set_option linter.unusedVariables false

/-- A script that came in: each call has its kind and its number. -/
def OpRow (w : World) (a : Option Addr) (len : Nat) : Prop :=
  len ≤ maxLen ∧ (0 < len → ∃ b off, a = some ⟨b, off, none⟩ ∧ b < w.heap.size ∧ ∀ i, i < len → ∃ k v : Int, W64 k ∧ W64 v ∧ w.cell? ⟨b, off + i * 2, none⟩ = some (.int .i64 k) ∧ w.cell? ⟨b, off + i * 2 + 1, none⟩ = some (.int .i64 v))

theorem trod_one_int {H : Type} {enc : TypeId × Value → H} {W : World} {base : Nat} {sp : Nat → Bool} {hd : Bool} {n : Nat} {c : Value} {x : DataW H × List MemPlace} (h : DataW.trod enc Try.prog W base sp hd n 3 [c] = some x) : ∃ z, c = .int .i64 z ∧ W64 z := by
  obtain ⟨z, g, rfl, w⟩ := DataW.trod_int Try.underlying3 h
  simp at g
  exact ⟨z, g, w⟩

theorem open_oprow {H : Type} {enc : TypeId × Value → H} {W : World} {base : Nat} {v : Value} {d : DataW H} {p : List MemPlace} (hv : Value.okWide Try.prog W .any base 28 v)
    (h : DataW.Trod enc Try.prog W 0 (fun _ => true) true 28 v d p) : ∃ a len cap, v = .slice a len cap ∧ OpRow W a len := by
  obtain ⟨a0, len0, cap0, rfl⟩ := okWide_slice Try.underlying28 hv
  obtain ⟨fuel, hf⟩ := h
  rcases open_slice Try.underlying28 hf with ⟨hcs, _⟩ | ⟨a, len, cap, m, n, D, Pl, hcs, _, hl, hm, hmm, _, hi⟩
  · simp [Value.cells] at hcs
    obtain ⟨rfl, rfl, rfl⟩ := hcs
    exact ⟨none, 0, 0, rfl, Nat.zero_le _, by omega⟩
  · simp [Value.cells] at hcs
    obtain ⟨rfl, rfl, rfl⟩ := hcs
    have hmc : m = cap0 := by simpa using hmm
    subst hmc
    refine ⟨some a, len0, m, rfl, by omega, fun hpos => ?_⟩
    have hC : Try.prog.cellsOf 35 = 2 := by kernel_rfl
    have key : ∀ i, i < len0 → ∃ k v : Int, W64 k ∧ W64 v ∧ W.cell? ((a.add (i * 2)).add 0) = some (.int .i64 k) ∧ W.cell? ((a.add (i * 2)).add 1) = some (.int .i64 v) := by
      intro i hil
      obtain ⟨cs', hc, ht⟩ := hi i (by omega)
      rw [hC] at hc
      obtain ⟨_, hlen, hcell⟩ := World.cells?_some hc
      obtain ⟨ys, n', rfl, _, _, hyl, hg⟩ := DataW.trod_struct Try.underlying35 ht
      match cs', hlen with
      | [c0, c1], _ =>
        have g0 := hg 0 _ rfl
        have g1 := hg 1 _ rfl
        have k1 : Try.prog.cellsOf 3 = 1 := by kernel_rfl
        simp [k1] at g0 g1
        rw [List.getElem?_eq_getElem (by rw [hyl]; decide)] at g0 g1
        obtain ⟨z0, rfl, w0⟩ := trod_one_int g0
        obtain ⟨z1, rfl, w1⟩ := trod_one_int g1
        exact ⟨z0, z1, w0, w1, hcell 0 (by omega), hcell 1 (by omega)⟩
    obtain ⟨b, off, spot⟩ := a
    obtain ⟨k0, v0, _, _, h0, _⟩ := key 0 hpos
    have hspot : spot = none := by simpa [Addr.add] using World.cell?_spot h0
    subst hspot
    refine ⟨b, off, rfl, by have := World.block_lt_of_cell? _ _ h0; simpa [Addr.add] using this, fun i hil => ?_⟩
    obtain ⟨k, v, wk, wv, h0, h1⟩ := key i hil
    rw [addr_add, addr_add] at h0 h1
    exact ⟨k, v, wk, wv, h0, h1⟩

set_option maxRecDepth 100000 in
set_option maxHeartbeats 1000000 in
theorem CodecFails_in (l : List UInt8) (er : Int) (a : Option Addr) (len cap : Nat) (w : World) (hl : l.length ≤ 1000) (hlen : len ≤ 100) (her : W64 er) (h0 : ¬ er = 0) (hrow : OpRow w a len) :
    Calls Try.prog 7 #[.string ⟨l.toArray⟩, .int .i64 er, .slice a len cap] w fun e w' => e = .returned (.bool true) ∧ Below w.heap.size w w' := by
  obtain ⟨_, hcells⟩ := hrow
  have HU := Lib.hid (show rdU l er = (0, l, er) by rw [rdU, if_neg h0])
  have HB := Lib.hid (show rdB l er = (0, l, er) by rw [rdB.eq_def, if_neg h0])
  have HS := Lib.hid (show ∀ most, rdS l er most = ([], l, er) from fun most => by rw [rdS, if_pos h0])
  have HL := Lib.hid (show leftOf l er = 0 by rw [leftOf, if_neg h0])
  have HF1 := Lib.hid (show fst_ 0 er = er by rw [fst_, if_pos rfl])
  have HF2 := Lib.hid (show fst_ er 13 = er by rw [fst_, if_neg h0])
  have h0 : (er == 0) = false := by simpa using h0
  have HZ := Lib.hid (show zag 0 = 0 by decide)
  go_enter Try.func7, Try.ntmps7
  go_wp2_with fail
  refine (awake_any _).mono ?_
  rintro e w1 ⟨rfl, b1⟩
  go_wp2_with fail
  refine (read_any _ _).mono ?_
  rintro e w2 ⟨b, rfl, hR, hb, b2⟩
  have hb2 := b1.trans (b2.mono b1.size)
  have hbw : w.heap.size ≤ b := Nat.le_trans b1.size hb
  clear b1 b2 hb
  go_wp2_with fail
  refine (fail_any (by exact hR)).mono ?_
  rintro e w3 ⟨rfl, hR3, hg3⟩
  rw [HF1.out] at hR3
  have hb3 := grown_below hb2 hg3 hbw
  clear hR hg3 hb2
  go_wp2_with fail
  refine (fail_any (by exact hR3)).mono ?_
  rintro e w4 ⟨rfl, hR4, hg4⟩
  rw [HF2.out] at hR4
  have hb4 := grown_below hb3 hg4 hbw
  clear hR3 hg4 hb3
  go_wp2_with fail
  go_loopw [36] (fun i wr => ∃ k : Nat, k ≤ len ∧ i = .int .i64 k ∧ RdAt wr b l er ∧ Below w.heap.size w wr) (fun i _ => len - (intOf i).toNat)
  case atStart => exact ⟨0, Nat.zero_le _, rfl, hR4, hb4⟩
  case round =>
    obtain ⟨k, hk, rfl, hR, hbk⟩ := hrel
    clear hR4 hb4
    by_cases hlt : k < len
    · obtain ⟨ab, off, rfl, hab, hcell⟩ := hcells (by omega)
      obtain ⟨kd, v, hkd, hv, c0, c1⟩ := hcell k hlt
      have c0 := (hbk.cell (p := ⟨ab, off + k * 2, none⟩) hab).trans c0
      have c1 := (hbk.cell (p := ⟨ab, off + k * 2 + 1, none⟩) hab).trans c1
      clear hcell hcells
      go_wp2_with fail
      have hR0 := hR.below ((Below.refl _ _).alloc (Nat.le_refl _) (.cells #[.int .i64 kd, .int .i64 v] 35))
      have hb0 := hbk.alloc hbk.size (.cells #[.int .i64 kd, .int .i64 v] 35)
      have hN : (wr.alloc (.cells #[.int .i64 kd, .int .i64 v] 35)).heap[wr.heap.size]? = some (.cells #[.int .i64 kd, .int .i64 v] 35 (0, 0)) := heap_alloc_new _ _
      have hNb : wr.heap.size ≠ b := by have := hR.lt; omega
      have hNlt : wr.heap.size < (wr.alloc (.cells #[.int .i64 kd, .int .i64 v] 35)).heap.size := by simp
      clear hR hbk c0 c1
      generalize wr.alloc (.cells #[.int .i64 kd, .int .i64 v] 35) = W0 at *
      generalize wr.heap.size = N at *
      refine (ruint_any (by exact hR0) (by omega)).mono ?_
      rintro e w5 ⟨rfl, hR5, g5⟩
      have hN5 := (g5.block _ hNlt (by simpa using hNb)).trans hN
      have hNlt5 := Nat.lt_of_lt_of_le hNlt g5.size
      rw [HU.out] at hR5
      rw [HU.out]
      have hb5 := grown_below hb0 g5 hbw
      clear hR0 g5 hb0 hN hNlt
      go_wp2_with fail
      refine (rint_any (by exact hR5) (by omega)).mono ?_
      rintro e w6 ⟨rfl, hR6, g6⟩
      have hN6 := (g6.block _ hNlt5 (by simpa using hNb)).trans hN5
      have hNlt6 := Nat.lt_of_lt_of_le hNlt5 g6.size
      rw [HU.out] at hR6
      rw [HU.out]
      simp only [HZ.out]
      have hb6 := grown_below hb5 g6 hbw
      clear hR5 g6 hb5 hN5 hNlt5
      go_wp2_with fail
      refine (rbyte_any (by exact hR6) (by omega)).mono ?_
      rintro e w7 ⟨rfl, hR7, g7⟩
      have hN7 := (g7.block _ hNlt6 (by simpa using hNb)).trans hN6
      have hNlt7 := Nat.lt_of_lt_of_le hNlt6 g7.size
      rw [HB.out] at hR7
      rw [HB.out]
      have hb7 := grown_below hb6 g7 hbw
      have hcv : w7.cell? ⟨N, 1, none⟩ = some (.int .i64 v) := cell_of_row _ _ 1 _ _ _ hN7
      clear hR6 g7 hb6 hN6 hNlt6 hN7
      go_wp2_with fail
      refine (rstr_any (by exact hR7) (by omega) hv).mono ?_
      rintro e w8 ⟨rfl, hR8, g8⟩
      rw [HS.out] at hR8
      rw [HS.out]
      have hb8 := grown_below hb7 g8 hbw
      clear hR7 g8 hb7 hcv
      go_wp2_with fail
      refine (left_any (by exact hR8)).mono ?_
      rintro e w' ⟨rfl, rfl⟩
      rw [HL.out]
      go_wp2_with fail
      refine (err_any (by exact hR8)).mono ?_
      rintro e w' ⟨rfl, rfl⟩
      go_wp2_with fail
      go_roundw
      case rel => exact ⟨k + 1, by omega, by go_num, hR8, hb8⟩
      case measure => simp [intOf]; omega
    · go_wp2_with fail
      refine (err_any (by exact hR)).mono ?_
      rintro e w' ⟨rfl, rfl⟩
      go_wp2_with fail
      go_ret
      exact ⟨rfl, hbk⟩

set_option maxRecDepth 100000 in
set_option maxHeartbeats 1000000 in
theorem CodecFails_out (l : List UInt8) (er : Int) (a : Option Addr) (len cap : Nat) (w : World) (hl : l.length ≤ maxLen) (hlen : len ≤ maxLen) (h : 1000 < l.length ∨ 100 < len ∨ er = 0) :
    Calls Try.prog 7 #[.string ⟨l.toArray⟩, .int .i64 er, .slice a len cap] w fun e w' => e = .returned (.bool true) ∧ Below w.heap.size w w' := by
  unfold maxLen at hl hlen
  by_cases h1 : 1000 < l.length
  · clear h
    go_enter Try.func7, Try.ntmps7
    go_wp2_with fail
    refine (awake_any _).mono ?_
    rintro e w1 ⟨rfl, b1⟩
    go_wp2_with fail
    refine (awake_any _).mono ?_
    rintro e w2 ⟨rfl, b2⟩
    have hb2 := b1.trans (b2.mono b1.size)
    go_wp2_with fail
    go_ret
    exact ⟨rfl, hb2⟩
  · by_cases h2 : 100 < len
    · clear h
      go_enter Try.func7, Try.ntmps7
      go_wp2_with fail
      refine (awake_any _).mono ?_
      rintro e w1 ⟨rfl, b1⟩
      go_wp2_with fail
      refine (awake_any _).mono ?_
      rintro e w2 ⟨rfl, b2⟩
      have hb2 := b1.trans (b2.mono b1.size)
      go_wp2_with fail
      go_ret
      exact ⟨rfl, hb2⟩
    · obtain rfl : er = 0 := by omega
      clear h
      go_enter Try.func7, Try.ntmps7
      go_wp2_with fail
      refine (awake_any _).mono ?_
      rintro e w1 ⟨rfl, b1⟩
      go_wp2_with fail
      refine (awake_any _).mono ?_
      rintro e w2 ⟨rfl, b2⟩
      have hb2 := b1.trans (b2.mono b1.size)
      go_wp2_with fail
      go_ret
      exact ⟨rfl, hb2⟩

theorem CodecFails_walk {H : Type} {enc : TypeId × Value → H} {base : Nat} {d : DataW H} {p : List MemPlace} (s : ByteArray) (er : Int) (v : Value) (w : World) (hs : s.size ≤ maxLen) (her : W64 er) (hv : Value.okWide Try.prog w .any base 28 v) (ht : DataW.Trod enc Try.prog w 0 (fun _ => true) true 28 v d p) :
    Calls Try.prog 7 #[.string s, .int .i64 er, v] w fun e w' => e = .returned (.bool true) ∧ Below w.heap.size w w' := by
  obtain ⟨l, rfl, hl⟩ := str_list s
  obtain ⟨a, len, cap, rfl, hz⟩ := open_oprow hv ht
  by_cases h : 1000 < l.length ∨ 100 < len ∨ er = 0
  · exact CodecFails_out l er a len cap w (by omega) hz.1 h
  · exact CodecFails_in l er a len cap w (by omega) (by omega) her (by omega) hz


theorem CodecFails_calls (H : Type) (enc : TypeId × Value → H) (W : World) (base : Nat) (args : Array Value) (ds gs : List (DataW H)) (before : List MemPlace)
    (hval : ∀ (j : Nat) t v, Try.f7.params[j]? = some t → args[j]? = some v → Value.okWide Try.prog W .any base t v)
    (hW : DataW.Whole enc Try.prog Try.f7.params.toList Rows.codecFailsSpec.vars false W args.toList ds gs before) :
    Calls Try.prog 7 args W fun e W' => e = .returned (.bool true) ∧ Below W.heap.size W W' := by
  obtain ⟨p, q, hA, hV, rfl, hfz, hnd⟩ := hW
  rw [Try.params7] at hA hval
  obtain ⟨v0, vs0, d0, ds0, p0, q0, hargs, rfl, rfl, h0, r0⟩ := trodAll_cons hA
  obtain ⟨v1, vs1, d1, ds1, p1, q1, rfl, rfl, rfl, h1, r1⟩ := trodAll_cons r0
  obtain ⟨v2, vs2, d2, ds2, p2, q2, rfl, rfl, rfl, h2, r2⟩ := trodAll_cons r1
  obtain ⟨rfl, rfl, rfl⟩ := trodAll_nil r2
  obtain rfl : args = #[v0, v1, v2] := Array.toList_inj.1 hargs
  obtain ⟨x0, rfl, rfl, rfl, w0⟩ := open_string Try.underlying9 (hval 0 9 v0 rfl rfl) h0
  obtain ⟨x1, rfl, rfl, rfl, w1⟩ := open_int Try.underlying3 (hval 1 3 v1 rfl rfl) h1
  exact CodecFails_walk x0 x1 v2 W w0 w1 (hval 2 28 v2 rfl rfl) h2

set_option maxRecDepth 100000 in
theorem CodecFails_lifted (os : Os) (started : os.Started) (H : Type) (enc : TypeId × Value → H) :
    ReturnsInHanded {} Try.checked os 7 .any (Rows.codecFailsSpec.pre6 enc Try.prog Try.f7 Rows.codecFailsRow.domain false) (Rows.codecFailsSpec.post enc Try.prog Try.f7 false true false false) := by
  refine returnsInHanded_of_change (C := Try.checked) own started (by kernel_rfl) Try.func7
    (ChangeSpec.witness6 (enc := enc) (C := Try.checked) false ⟨#[], #[.string ByteArray.empty, .int .i64 0, .slice none 0 0], []⟩ 8 (by kernel_rfl) (by kernel_rfl) (by kernel_rfl) (by kernel_rfl)) ?_
  intro W base args ds gs before hval0 hW hcnd _
  have hval : ∀ (j : Nat) t v, Try.f7.params[j]? = some t → args[j]? = some v → Value.okWide Try.prog W .any base t v := hval0
  refine (CodecFails_calls H enc W base args ds gs before hval hW).mono fun e W' ⟨he, bel⟩ => ?_
  exact ⟨_, he, law_post (ts := [9, 3, 28]) (by rw [Try.params7]) (by intro t ht; simp only [List.mem_cons, List.not_mem_nil, or_false] at ht; rcases ht with rfl | rfl | rfl <;> exact ⟨by kernel_rfl, of_decide_eq_true (by kernel_rfl)⟩) hW rfl
    (fun ds h => by match ds, h with | [_, _, _], _ => rfl) (by kernel_rfl) bel⟩

theorem CodecFails_over : Rows.codecFailsRow.holds Try.pinned (OpenSpec.ofChange Rows.codecFailsSpec) :=
  OpenClaim.holds_of_wide 7 Try.f7 rfl rfl rfl rfl rfl rfl rfl ⟨rfl, rfl, rfl, rfl, rfl⟩ rfl rfl rfl rfl rfl (by kernel_rfl) Try.func7 (by kernel_rfl)
    (of_decide_eq_true (by kernel_rfl)) (by unfold Func.isWrapper; first | (rw [if_pos (by decide +kernel)]; kernel_rfl) | (rw [if_neg (by decide +kernel)]; exact ⟨rfl, rfl⟩))
    (fun os started H enc _ => CodecFails_lifted os started H enc)

/-- The statement. -/
theorem CodecFails_proved : Rows.CodecFailsSaid := CodecFails_over

end Go.Proofs.Ytkmcppnbbppokaa
