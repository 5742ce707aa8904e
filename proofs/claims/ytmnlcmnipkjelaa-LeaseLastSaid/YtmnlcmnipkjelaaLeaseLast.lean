/- LeaseLast: for every member, list of times and clock the law answers true. No condition. -/
import Derived.Test.YtmnlcmnipkjelaaLeaseAwake
namespace Go.Proofs.Ytmnlcmnipkjelaa
open Go.RowKit Go.Maps Go.ChangeShapes Go.WideShapes Go.Joins
open Go.ChangeMaps (open_string shut_string)
set_option linter.unusedVariables false

/-- A slice of int that came in: it has the numbers zs. -/
def IntRow (w : World) (a : Option Addr) (len : Nat) (zs : List Int) : Prop :=
  zs.length = len ∧ len ≤ maxLen ∧ (∀ z ∈ zs, W64 z) ∧ (0 < len → ∃ b off, a = some ⟨b, off, none⟩ ∧ b < w.heap.size ∧ ∀ i, i < len → w.cell? ⟨b, off + i, none⟩ = some (.int .i64 (zs.getD i 0)))

theorem open_introw {H : Type} {enc : TypeId × Value → H} {W : World} {base : Nat} {v : Value} {d : DataW H} {p : List MemPlace} {T : TypeId} (hT : Try.prog.underlying T = some (.slice 3)) (hv : Value.okWide Try.prog W .any base T v)
    (h : DataW.Trod enc Try.prog W 0 (fun _ => true) true T v d p) : ∃ a len cap zs, v = .slice a len cap ∧ IntRow W a len zs := by
  obtain ⟨a0, len0, cap0, rfl⟩ := okWide_slice hT hv
  obtain ⟨fuel, hf⟩ := h
  rcases open_ints hT Try.underlying3 (by kernel_rfl) hf with ⟨hcs, _⟩ | ⟨x, l, c, zs, hcs, _, hl, hm, hz, _, hcell, hwz⟩
  · simp [Value.cells] at hcs
    obtain ⟨rfl, rfl, rfl⟩ := hcs
    exact ⟨none, 0, 0, [], rfl, rfl, Nat.zero_le _, by simp, by omega⟩
  · simp [Value.cells] at hcs
    obtain ⟨rfl, rfl, rfl⟩ := hcs
    have hz' : zs.length = cap0 := by simpa using hz
    refine ⟨some x, len0, cap0, zs.take len0, rfl, by simp; omega, by omega, fun z hz => hwz z (List.mem_of_mem_take hz), fun hpos => ?_⟩
    obtain ⟨b, off, spot⟩ := x
    have hc := hcell 0 (by omega)
    have hspot : spot = none := by simpa [Addr.add] using World.cell?_spot hc
    subst hspot
    refine ⟨b, off, rfl, by have := World.block_lt_of_cell? _ _ hc; simpa [Addr.add] using this, fun i hi => ?_⟩
    have := hcell i (by omega)
    have e : (zs.take len0).getD i 0 = zs.getD i 0 := by simp [List.getD, List.getElem?_take, hi]
    rw [e, ← this]
    congr 1
    by_cases h0 : i = 0 <;> simp [Addr.add, h0]

def mostOf (zs : List Int) : Int := zs.foldl max 0
theorem mostOf_snoc (zs : List Int) (z : Int) : mostOf (zs ++ [z]) = max (mostOf zs) z := by simp [mostOf]
theorem mostOf_nonneg (zs : List Int) : 0 ≤ mostOf zs := by
  have : ∀ (l : List Int) (a : Int), 0 ≤ a → 0 ≤ l.foldl max a := by
    intro l
    induction l with
    | nil => intro a h; exact h
    | cons x r ih => intro a h; exact ih _ (by omega)
  exact this zs 0 (by omega)
theorem take_snoc' (zs : List Int) (k : Nat) (h : k < zs.length) : zs.take (k + 1) = zs.take k ++ [zs.getD k 0] := by
  rw [List.take_succ_eq_append_getElem h]
  simp [List.getD, h]

/-- Another life. -/
theorem other_life {y : Int} (hy : W64 y) : ∃ y', bits .xor .i64 y 1 = y' ∧ W64 y' ∧ y' ≠ y := by
  refine ⟨_, rfl, wf_bits _ _ _ _, fun h => ?_⟩
  have h1 : BitVec.ofInt 64 (bits .xor .i64 y 1) = BitVec.ofInt 64 y ^^^ 1#64 := by
    show BitVec.ofInt 64 (IntKind.i64.wrap ((BitVec.ofInt 64 y ^^^ BitVec.ofInt 64 1).toNat : Int)) = _
    rw [IntKind.wrap_i64]
    apply BitVec.eq_of_toInt_eq
    rw [BitVec.toInt_ofInt, BitVec.toInt_eq_toNat_bmod]
    show _ = (((BitVec.ofInt 64 y ^^^ BitVec.ofInt 64 1).toNat : Nat) : Int).bmod _
    generalize ((BitVec.ofInt 64 y ^^^ BitVec.ofInt 64 1).toNat : Int) = q
    simp only [Int.bmod_def]
    omega
  rw [h] at h1
  have h2 : BitVec.ofInt 64 y ^^^ BitVec.ofInt 64 y = BitVec.ofInt 64 y ^^^ (BitVec.ofInt 64 y ^^^ 1#64) := congrArg (BitVec.ofInt 64 y ^^^ ·) h1
  rw [← BitVec.xor_assoc, BitVec.xor_self, BitVec.zero_xor] at h2
  exact absurd h2 (by decide)

set_option maxHeartbeats 1000000 in
theorem LeaseLast_walk' (x y now : Int) (a : Option Addr) (len cap : Nat) (zs : List Int) (w : World) (hx : W64 x) (hy : W64 y) (hz : IntRow w a len zs) (hnow : W64 now) (h200 : len ≤ 200) :
    Calls Try.prog 5 #[.agg #[.int .i64 x, .int .i64 y], .slice a len cap, .int .i64 now] w fun e w' => e = .returned (.bool true) ∧ Below w.heap.size w w' := by
  obtain ⟨hlen, _, hwf, hcells⟩ := hz
  have e0 : (w.alloc (.cells #[.int .i64 x, .int .i64 y] 23)).cell? ⟨w.heap.size, 0, none⟩ = some (.int .i64 x) := by simp
  have e1 : (w.alloc (.cells #[.int .i64 x, .int .i64 y] 23)).cell? ⟨w.heap.size, 1, none⟩ = some (.int .i64 y) := by simp
  have hb0 : Below w.heap.size w (w.alloc (.cells #[.int .i64 x, .int .i64 y] 23)) := (Below.refl _ _).alloc (Nat.le_refl _) _
  go_enter Try.func5, Try.ntmps5
  go_wp2_with fail
  generalize w.alloc (.cells #[.int .i64 x, .int .i64 y] 23) = W0 at *
  refine (awake_any _).mono ?_
  rintro e w1 ⟨rfl, b1⟩
  have h0 := (b1.cell (p := ⟨w.heap.size, 0, none⟩) (World.block_lt_of_cell? _ _ e0)).trans e0
  have h1 := (b1.cell (p := ⟨w.heap.size, 1, none⟩) (World.block_lt_of_cell? _ _ e1)).trans e1
  have hb1 := hb0.trans (b1.mono hb0.size)
  clear e0 e1 hb0 b1
  go_wp2_with fail
  refine (new_any _).mono ?_
  rintro e w2 ⟨b, m, rfl, hB, hb, hm, b2⟩
  have e0 := (b2.cell (p := ⟨w.heap.size, 0, none⟩) (World.block_lt_of_cell? _ _ h0)).trans h0
  have e1 := (b2.cell (p := ⟨w.heap.size, 1, none⟩) (World.block_lt_of_cell? _ _ h1)).trans h1
  have hmN : m ≠ w.heap.size := by have := World.block_lt_of_cell? _ _ h0; simp at this; omega
  have hmw : w.heap.size ≤ m := Nat.le_trans hb1.size hm
  have hb2 := hb1.trans (b2.mono hb1.size)
  clear h0 h1 hb1 b2 hb hm
  go_wp2_with fail
  go_loopw [8, 23] (fun q i wr => ∃ k : Nat, k ≤ len ∧ i = .int .i64 k ∧ q = .int .i64 (mostOf (zs.take k)) ∧ BookAt wr b m k (upd (fun _ _ => 0) x y (mostOf (zs.take k))) 0 ∧
      wr.cell? ⟨w.heap.size, 0, none⟩ = some (.int .i64 x) ∧ wr.cell? ⟨w.heap.size, 1, none⟩ = some (.int .i64 y) ∧ Below w.heap.size w wr) (fun _ i _ => len - (intOf i).toNat)
  case atStart =>
    refine ⟨0, Nat.zero_le _, rfl, rfl, ?_, e0, e1, hb2⟩
    have : upd (fun _ _ => 0) x y (mostOf (zs.take 0)) = fun _ _ => 0 := by
      funext x' y'
      simp [upd, mostOf]
    rw [this]
    exact hB
  case round =>
    obtain ⟨k, hk, rfl, rfl, hBk, h0, h1, hbk⟩ := hrel
    clear hB e0 e1 hb2
    have hM := mostOf_nonneg (zs.take k)
    by_cases hlt : k < len
    · obtain ⟨ab, off, rfl, hab, hcell⟩ := hcells (by omega)
      have hc := (hbk.cell (p := ⟨ab, off + k, none⟩) hab).trans (hcell k hlt)
      have hzk : W64 (zs.getD k 0) := hwf _ (by rw [List.getD_eq_getElem?_getD, List.getElem?_eq_getElem (by omega)]; simp)
      have HT := Lib.hid (take_snoc' zs k (by omega))
      have hk' : k < maxLen := by unfold maxLen; omega
      generalize zs.getD k 0 = z at *
      go_wp2_with fail
      by_cases g : mostOf (zs.take k) < z
      · refine (grant_yes (by exact hBk) hk' hx hy hzk (by rw [upd_same]; exact g)).mono ?_
        rintro e w4 ⟨rfl, hB4, hg4⟩
        have l0 := hg4.cell h0 (by simpa using hmN.symm)
        have l1 := hg4.cell h1 (by simpa using hmN.symm)
        have hb4 : Below w.heap.size w w4 := hbk.grown hg4 hbk.size (by intro k hk; cases hk; exact hmw)
        rw [upd_upd] at hB4
        have e1 : mostOf (zs.take (k + 1)) = z := by rw [HT.out, mostOf_snoc]; omega
        have HE := Lib.hid e1
        clear e1 hBk h0 h1 hbk hg4
        go_wp2_with fail
        go_roundw
        case rel => exact ⟨k + 1, by omega, by go_num, by rw [HE.out], by rw [HE.out]; exact hB4, l0, l1, hb4⟩
        case measure => simp [intOf]; omega
      · refine (grant_no (by exact hBk) hx hy (by rw [upd_same]; omega)).mono ?_
        rintro e w4 ⟨rfl, hB4, hg4⟩
        have l0 := (hg4.cell (p := ⟨w.heap.size, 0, none⟩) (World.block_lt_of_cell? _ _ h0)).trans h0
        have l1 := (hg4.cell (p := ⟨w.heap.size, 1, none⟩) (World.block_lt_of_cell? _ _ h1)).trans h1
        have hb4 : Below w.heap.size w w4 := hbk.trans (hg4.mono hbk.size)
        have e1 : mostOf (zs.take (k + 1)) = mostOf (zs.take k) := by rw [HT.out, mostOf_snoc]; omega
        have HE := Lib.hid e1
        have g' : z ≤ mostOf (zs.take k) := by omega
        clear e1 hBk h0 h1 hbk hg4 g
        go_wp2_with fail
        all_goals
          go_roundw
          case rel => exact ⟨k + 1, by omega, by go_num, by first | rw [HE.out] | (rw [HE.out]; congr 1; omega), by rw [HE.out]; exact hB4.mono (by omega), l0, l1, hb4⟩
          case measure => simp [intOf]; omega
    · have hkl : len ≤ k := by omega
      have HK := Lib.hid (show k = len from by omega)
      clear hk
      generalize mostOf (zs.take k) = M at *
      obtain ⟨y', hy', wy', ny'⟩ := other_life hy
      have hsz : w.heap.size < wr.heap.size := World.block_lt_of_cell? _ _ h0
      go_wp2_with fail
      have c0 : (wr.alloc (.cells #[.int .i64 x, .int .i64 y'] 23)).cell? ⟨wr.heap.size, 0, none⟩ = some (.int .i64 x) := by simp
      have c1 : (wr.alloc (.cells #[.int .i64 x, .int .i64 y'] 23)).cell? ⟨wr.heap.size, 1, none⟩ = some (.int .i64 y') := by simp
      have e0 : (wr.alloc (.cells #[.int .i64 x, .int .i64 y'] 23)).cell? ⟨w.heap.size, 0, none⟩ = some (.int .i64 x) := by rw [World.cell?_alloc_lt _ _ _ hsz]; exact h0
      have e1 : (wr.alloc (.cells #[.int .i64 x, .int .i64 y'] 23)).cell? ⟨w.heap.size, 1, none⟩ = some (.int .i64 y) := by rw [World.cell?_alloc_lt _ _ _ hsz]; exact h1
      have hB0 := hBk.alloc (.cells #[.int .i64 x, .int .i64 y'] 23)
      have hb0 := hbk.alloc hbk.size (.cells #[.int .i64 x, .int .i64 y'] 23)
      clear h0 h1 hBk hbk hsz
      generalize wr.alloc (.cells #[.int .i64 x, .int .i64 y'] 23) = W1 at *
      generalize wr.heap.size = N at *
      refine (until_any (by exact hB0) hx hy).mono ?_
      rintro e w5 ⟨rfl, hB5, b5⟩
      have d0 := (b5.cell (p := ⟨N, 0, none⟩) (World.block_lt_of_cell? _ _ c0)).trans c0
      have d1 := (b5.cell (p := ⟨N, 1, none⟩) (World.block_lt_of_cell? _ _ c1)).trans c1
      have h0 := (b5.cell (p := ⟨w.heap.size, 0, none⟩) (World.block_lt_of_cell? _ _ e0)).trans e0
      have h1 := (b5.cell (p := ⟨w.heap.size, 1, none⟩) (World.block_lt_of_cell? _ _ e1)).trans e1
      have hb5 := hb0.trans (b5.mono hb0.size)
      clear c0 c1 e0 e1 hB0 hb0 b5
      rw [upd_same]
      go_wp2_with fail
      refine (until_any (by exact hB5) hx wy').mono ?_
      rintro e w6 ⟨rfl, hB6, b6⟩
      have c0 := (b6.cell (p := ⟨N, 0, none⟩) (World.block_lt_of_cell? _ _ d0)).trans d0
      have c1 := (b6.cell (p := ⟨N, 1, none⟩) (World.block_lt_of_cell? _ _ d1)).trans d1
      have e0 := (b6.cell (p := ⟨w.heap.size, 0, none⟩) (World.block_lt_of_cell? _ _ h0)).trans h0
      have e1 := (b6.cell (p := ⟨w.heap.size, 1, none⟩) (World.block_lt_of_cell? _ _ h1)).trans h1
      have hb6 := hb5.trans (b6.mono hb5.size)
      clear d0 d1 h0 h1 hB5 hb5 b6
      rw [upd_other _ (fun h => ny' h.2)]
      go_wp2_with fail
      refine (free_any (by exact hB6) hx hy).mono ?_
      rintro e w7 ⟨rfl, hB7, b7⟩
      have d0 := (b7.cell (p := ⟨N, 0, none⟩) (World.block_lt_of_cell? _ _ c0)).trans c0
      have d1 := (b7.cell (p := ⟨N, 1, none⟩) (World.block_lt_of_cell? _ _ c1)).trans c1
      have hb7 := hb6.trans (b7.mono hb6.size)
      clear c0 c1 e0 e1 hB6 hb6 b7
      rw [upd_same, Int.max_eq_left hM]
      by_cases g : M ≤ now
      · have g0 : 0 ≤ now := by omega
        go_wp2_with fail
        refine (free_any (by exact hB7) hx wy').mono ?_
        rintro e w8 ⟨rfl, hB8, b8⟩
        have hb8 := hb7.trans (b8.mono hb7.size)
        clear hB7 hB8 hb7 b8 d0 d1
        rw [upd_other _ (fun h => ny' h.2), Int.max_self]
        go_wp2_with fail
        go_ret
        exact ⟨rfl, hb8⟩
      · go_wp2_with fail
        refine (free_any (by exact hB7) hx wy').mono ?_
        rintro e w8 ⟨rfl, hB8, b8⟩
        have hb8 := hb7.trans (b8.mono hb7.size)
        clear hB7 hB8 hb7 b8 d0 d1
        rw [upd_other _ (fun h => ny' h.2), Int.max_self]
        go_wp2_with fail
        go_ret
        exact ⟨rfl, hb8⟩

set_option maxHeartbeats 1000000 in
theorem LeaseLast_long (x y now : Int) (a : Option Addr) (len cap : Nat) (w : World) (hl : len ≤ maxLen) (h200 : 200 < len) :
    Calls Try.prog 5 #[.agg #[.int .i64 x, .int .i64 y], .slice a len cap, .int .i64 now] w fun e w' => e = .returned (.bool true) ∧ Below w.heap.size w w' := by
  unfold maxLen at hl
  have hb0 : Below w.heap.size w (w.alloc (.cells #[.int .i64 x, .int .i64 y] 23)) := (Below.refl _ _).alloc (Nat.le_refl _) _
  go_enter Try.func5, Try.ntmps5
  go_wp2_with fail
  generalize w.alloc (.cells #[.int .i64 x, .int .i64 y] 23) = W0 at *
  refine (awake_any _).mono ?_
  rintro e w1 ⟨rfl, b1⟩
  have hb1 := hb0.trans (b1.mono hb0.size)
  clear hb0 b1
  go_wp2_with fail
  refine (awake_any _).mono ?_
  rintro e w2 ⟨rfl, b2⟩
  have hb2 := hb1.trans (b2.mono hb1.size)
  go_wp2_with fail
  go_ret
  exact ⟨rfl, hb2⟩

theorem LeaseLast_walk {H : Type} {enc : TypeId × Value → H} {base : Nat} {d : DataW H} {p : List MemPlace} (x y : Int) (v : Value) (now : Int) (w : World) (hx : W64 x) (hy : W64 y) (hv : Value.okWide Try.prog w .any base 32 v) (ht : DataW.Trod enc Try.prog w 0 (fun _ => true) true 32 v d p) (hnow : W64 now) :
    Calls Try.prog 5 #[.agg #[.int .i64 x, .int .i64 y], v, .int .i64 now] w fun e w' => e = .returned (.bool true) ∧ Below w.heap.size w w' := by
  obtain ⟨a, len, cap, zs, rfl, hz⟩ := open_introw Try.underlying32 hv ht
  by_cases h : len ≤ 200
  · exact LeaseLast_walk' x y now a len cap zs w hx hy hz hnow h
  · exact LeaseLast_long x y now a len cap w hz.2.1 (by omega)


theorem LeaseLast_calls (H : Type) (enc : TypeId × Value → H) (W : World) (base : Nat) (args : Array Value) (ds gs : List (DataW H)) (before : List MemPlace)
    (hval : ∀ (j : Nat) t v, Try.f5.params[j]? = some t → args[j]? = some v → Value.okWide Try.prog W .any base t v)
    (hW : DataW.Whole enc Try.prog Try.f5.params.toList Rows.leaseLastSpec.vars false W args.toList ds gs before) :
    Calls Try.prog 5 args W fun e W' => e = .returned (.bool true) ∧ Below W.heap.size W W' := by
  obtain ⟨p, q, hA, hV, rfl, hfz, hnd⟩ := hW
  rw [Try.params5] at hA hval
  obtain ⟨v0, vs0, d0, ds0, p0, q0, hargs, rfl, rfl, h0, r0⟩ := trodAll_cons hA
  obtain ⟨v1, vs1, d1, ds1, p1, q1, rfl, rfl, rfl, h1, r1⟩ := trodAll_cons r0
  obtain ⟨v2, vs2, d2, ds2, p2, q2, rfl, rfl, rfl, h2, r2⟩ := trodAll_cons r1
  obtain ⟨rfl, rfl, rfl⟩ := trodAll_nil r2
  obtain rfl : args = #[v0, v1, v2] := by cases args; simp_all
  obtain ⟨c0, e0, z0, z0_, m0, rfl, rfl, rfl, hz0, hz0_⟩ := Joins.open_agg2 Try.underlying23 (by kernel_rfl) (by kernel_rfl) (hval 0 23 v0 rfl rfl) h0
  obtain ⟨x0, g0, rfl, w0⟩ := DataW.trod_int Try.underlying3 hz0
  obtain ⟨y0, g0_, rfl, w0_⟩ := DataW.trod_int Try.underlying3 hz0_
  simp at g0 g0_; subst g0 g0_
  obtain ⟨x2, rfl, rfl, rfl, w2⟩ := open_int Try.underlying3 (hval 2 3 v2 rfl rfl) h2
  exact LeaseLast_walk x0 y0 v1 x2 W w0 w0_ (hval 1 32 v1 rfl rfl) h1 w2

set_option maxRecDepth 100000 in
theorem LeaseLast_lifted (os : Os) (started : os.Started) (H : Type) (enc : TypeId × Value → H) :
    ReturnsInHanded {} Try.checked os 5 .any (Rows.leaseLastSpec.pre6 enc Try.prog Try.f5 Rows.leaseLastRow.domain false) (Rows.leaseLastSpec.post enc Try.prog Try.f5 false true false false) := by
  refine returnsInHanded_of_change (C := Try.checked) own started (by kernel_rfl) Try.func5
    (ChangeSpec.witness6 (enc := enc) (C := Try.checked) false ⟨#[], #[.agg #[.int .i64 0, .int .i64 0], .slice none 0 0, .int .i64 0], []⟩ 8 (by kernel_rfl) (by kernel_rfl) (by kernel_rfl) (by kernel_rfl)) ?_
  intro W base args ds gs before hval0 hW hcnd _
  have hval : ∀ (j : Nat) t v, Try.f5.params[j]? = some t → args[j]? = some v → Value.okWide Try.prog W .any base t v := hval0
  refine (LeaseLast_calls H enc W base args ds gs before hval hW).mono fun e W' ⟨he, bel⟩ => ?_
  exact ⟨_, he, law_post (ts := [23, 32, 3]) (by rw [Try.params5]) (by intro t ht; simp only [List.mem_cons, List.not_mem_nil, or_false] at ht; rcases ht with rfl | rfl | rfl <;> exact ⟨by kernel_rfl, of_decide_eq_true (by kernel_rfl)⟩) hW rfl
    (fun ds h => by match ds, h with | [_, _, _], _ => rfl) (by kernel_rfl) bel⟩

theorem LeaseLast_over : Rows.leaseLastRow.holds Try.pinned (OpenSpec.ofChange Rows.leaseLastSpec) :=
  OpenClaim.holds_of_wide 5 Try.f5 rfl rfl rfl rfl rfl rfl rfl ⟨rfl, rfl, rfl, rfl, rfl⟩ rfl rfl rfl rfl rfl (by kernel_rfl) Try.func5 (by kernel_rfl)
    (of_decide_eq_true (by kernel_rfl)) (by unfold Func.isWrapper; first | (rw [if_pos (by decide +kernel)]; kernel_rfl) | (rw [if_neg (by decide +kernel)]; exact ⟨rfl, rfl⟩))
    (fun os started H enc _ => LeaseLast_lifted os started H enc)

/-- The statement. -/
theorem LeaseLast_proved : Rows.LeaseLastSaid := LeaseLast_over

end Go.Proofs.Ytmnlcmnipkjelaa
