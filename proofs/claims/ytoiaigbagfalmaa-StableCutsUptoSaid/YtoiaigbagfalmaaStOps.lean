/- Scripts that came in, and whether one is long. -/
import Derived.Test.YtoiaigbagfalmaaStAwake
import Derived.Deep.Slices
namespace Go.Proofs.Ytoiaigbagfalmaa
open Go.RowKit Go.ChangeShapes Go.WideShapes Go.Joins Go.Deep
set_option linter.unusedVariables false

/-- A call: its kind, how much is kept, its text. -/
structure SOp where
  kind : Int
  keep : Int
  s : List UInt8
def SOpOk (o : SOp) : Prop := W64 o.kind ∧ W64 o.keep ∧ o.s.length ≤ maxLen
def SOpAt (w : World) (b off : Nat) (o : SOp) : Prop := w.cell? ⟨b, off, none⟩ = some (.int .i64 o.kind) ∧ w.cell? ⟨b, off + 1, none⟩ = some (.int .i64 o.keep) ∧ w.cell? ⟨b, off + 2, none⟩ = some (.string ⟨o.s.toArray⟩)
def SOpsAt (w : World) (a : Option Addr) (S : List SOp) : Prop :=
  S.length ≤ maxLen ∧ (∀ o ∈ S, SOpOk o) ∧ (0 < S.length → ∃ b off, a = some ⟨b, off, none⟩ ∧ b < w.heap.size ∧ ∀ i o, S[i]? = some o → SOpAt w b (off + i * 3) o)
theorem SOpAt.of {w w' : World} {b off : Nat} {o : SOp} (h : SOpAt w b off o) (he : ∀ j, w'.cell? ⟨b, j, none⟩ = w.cell? ⟨b, j, none⟩) : SOpAt w' b off o :=
  ⟨(he _).trans h.1, (he _).trans h.2.1, (he _).trans h.2.2⟩
set_option maxRecDepth 100000 in
theorem sop_of_trod {H : Type} {enc : TypeId × Value → H} {W : World} {base : Nat} {sp : Nat → Bool} {hd : Bool} {n : Nat} {cs : List Value} {x : DataW H × List MemPlace} (hl : cs.length = 3)
    (hf : DataW.trod enc Try.prog W base sp hd n 36 cs = some x) : ∃ o : SOp, SOpOk o ∧ cs = [.int .i64 o.kind, .int .i64 o.keep, .string ⟨o.s.toArray⟩] := by
  obtain ⟨ys, n', rfl, _, _, hyl, hg⟩ := DataW.trod_struct Try.underlying36 hf
  match cs, hl with
  | [c0, c1, c2], _ =>
    have k1 : Try.prog.cellsOf 3 = 1 := by kernel_rfl
    have k2 : Try.prog.cellsOf 9 = 1 := by kernel_rfl
    have g0 := hg 0 _ rfl
    have g1 := hg 1 _ rfl
    have g2 := hg 2 _ rfl
    simp [k1, k2] at g0 g1 g2
    rw [List.getElem?_eq_getElem (by rw [hyl]; decide)] at g0 g1 g2
    obtain ⟨z0, rfl, w0⟩ := trod_one_int g0
    obtain ⟨z1, rfl, w1⟩ := trod_one_int g1
    obtain ⟨l, rfl, hl⟩ := trod_one_str g2
    exact ⟨⟨z0, z1, l⟩, ⟨w0, w1, hl⟩, rfl⟩
set_option maxRecDepth 100000 in
theorem open_sops {H : Type} {enc : TypeId × Value → H} {W : World} {base : Nat} {v : Value} {d : DataW H} {p : List MemPlace} (hv : Value.okWide Try.prog W .any base 31 v)
    (h : DataW.Trod enc Try.prog W 0 (fun _ => true) true 31 v d p) : ∃ a S cap, v = .slice a (S : List SOp).length cap ∧ SOpsAt W a S := by
  obtain ⟨a0, len0, cap0, rfl⟩ := okWide_slice Try.underlying31 hv
  obtain ⟨fuel, hf⟩ := h
  rcases open_slice Try.underlying31 hf with ⟨hcs, _⟩ | ⟨a, len, cap, m, n, D, Pl, hcs, _, hl, hm, hmm, _, hi⟩
  · simp [Value.cells] at hcs
    obtain ⟨rfl, rfl, rfl⟩ := hcs
    exact ⟨none, [], 0, rfl, Nat.zero_le _, by simp, by simp⟩
  · simp [Value.cells] at hcs
    obtain ⟨rfl, rfl, rfl⟩ := hcs
    have hmc : m = cap0 := by simpa using hmm
    subst hmc
    have hC : Try.prog.cellsOf 36 = 3 := by kernel_rfl
    have key : ∀ i, i < len0 → ∃ o : SOp, SOpOk o ∧ ∀ j u, ([.int .i64 o.kind, .int .i64 o.keep, .string ⟨o.s.toArray⟩] : List Value)[j]? = some u → W.cell? ((a.add (i * 3)).add j) = some u := by
      intro i hil
      obtain ⟨cs', hc, ht⟩ := hi i (by omega)
      rw [hC] at hc
      obtain ⟨_, hlen, hcell⟩ := World.cells?_some hc
      obtain ⟨o, ho, rfl⟩ := sop_of_trod hlen ht
      refine ⟨o, ho, fun j u hj => ?_⟩
      have hjl := (List.getElem?_eq_some_iff.1 hj).1
      rw [hlen] at hjl
      rw [hcell j hjl, hj]
    obtain ⟨L, hLl, hL⟩ := choose_list len0 (fun i (o : SOp) => SOpOk o ∧ ∀ j u, ([.int .i64 o.kind, .int .i64 o.keep, .string ⟨o.s.toArray⟩] : List Value)[j]? = some u → W.cell? ((a.add (i * 3)).add j) = some u) key
    subst hLl
    refine ⟨some a, L, m, rfl, by omega, fun s hs => ?_, fun hpos => ?_⟩
    · obtain ⟨i, hi⟩ := List.getElem?_of_mem hs
      exact (hL i s hi).1
    · obtain ⟨b, off, spot⟩ := a
      obtain ⟨o0, _, h0⟩ := key 0 hpos
      have h0 := h0 0 _ rfl
      have hspot : spot = none := by simpa [Addr.add] using World.cell?_spot h0
      subst hspot
      refine ⟨b, off, rfl, by have := World.block_lt_of_cell? _ _ h0; simpa [Addr.add] using this, fun i s hi => ?_⟩
      have h := (hL i s hi).2
      have t0 := h 0 _ rfl
      have t1 := h 1 _ rfl
      have t2 := h 2 _ rfl
      rw [addr_add, addr_add] at t0 t1 t2
      exact ⟨t0, t1, t2⟩

set_option maxRecDepth 100000 in
set_option maxHeartbeats 4000000 in

theorem long_any {w : World} {a : Option Addr} {cap : Nat} {S : List SOp} (hS : SOpsAt w a S) :
    Calls Try.prog 13 #[.slice a S.length cap] w fun e w' => ∃ q, e = .returned (.bool q) ∧ Below w.heap.size w w' ∧ (q = false → S.length ≤ 8192 ∧ ∀ o ∈ S, o.s.length ≤ 65536) := by
  have hlen := hS.1
  unfold maxLen at hlen
  have HS := Lib.hid hS
  clear hS
  go_enter Try.func13, Try.ntmps13
  go_wp2_with fail
  go_loopw [3, 8] (fun m i wr => ∃ (k n : Nat), k ≤ S.length ∧ i = .int .i64 k ∧ m = .int .i64 n ∧ n ≤ 65536 ∧ k * 8 ≤ n ∧ Below w.heap.size w wr ∧ Aside (∀ j o, j < k → S[j]? = some o → o.s.length ≤ 65536)) (fun _ i _ => S.length - (intOf i).toNat)
  case atStart => exact ⟨0, 0, Nat.zero_le _, rfl, rfl, by omega, by omega, Below.refl _ _, fun j o hj => by omega⟩
  case round =>
    obtain ⟨k, n, hk, rfl, rfl, hn, hkn, hb, HA⟩ := hrel
    by_cases hlt : k < S.length
    · obtain ⟨b, off, rfl, hab, hc⟩ := HS.out.2.2 (by omega)
      obtain ⟨o, ho⟩ : ∃ o, S[k]? = some o := ⟨_, List.getElem?_eq_getElem hlt⟩
      obtain ⟨s0, s1, s2⟩ := (hc k o ho).of (w' := wr) fun j => hb.cell (p := ⟨b, j, none⟩) hab
      obtain ⟨kd, kp, s⟩ := o
      simp only at s0 s1 s2
      have HO := Lib.hid ho
      clear hc ho
      go_upto_region 5 with (fail)
      have hT := BlkAt.new wr 36 [.int .i64 kd, .int .i64 kp, .string ⟨s.toArray⟩]
      have hb := hb.alloc hb.size (.cells #[.int .i64 kd, .int .i64 kp, .string ⟨s.toArray⟩] 36)
      change Code.wp _ _ _ _ (wr.alloc (.cells #[.int .i64 kd, .int .i64 kp, .string ⟨s.toArray⟩] 36))
      change BlkAt (wr.alloc (.cells #[.int .i64 kd, .int .i64 kp, .string ⟨s.toArray⟩] 36)) _ _ _ at hT
      generalize wr.alloc (.cells #[.int .i64 kd, .int .i64 kp, .string ⟨s.toArray⟩] 36) = v1_0 at *
      generalize wr.heap.size = T at *
      clear s0 s1 s2
      have fhT0 : v1_0.cell? ⟨T, 0, none⟩ = some (.int .i64 kd) := hT.cell rfl
      have fhT1 : v1_0.cell? ⟨T, 1, none⟩ = some (.int .i64 kp) := hT.cell rfl
      have fhT2 : v1_0.cell? ⟨T, 2, none⟩ = some (.string ⟨s.toArray⟩) := hT.cell rfl
      obtain ⟨mm, hm, hm1, hm2⟩ : ∃ mm : Nat, (if (1048576 : Int) < (s.length : Int) then (1048576 : Int) else (s.length : Int)) = (mm : Nat) ∧ mm ≤ 1048576 ∧ (mm ≤ 65536 → s.length ≤ 65536) := by
        refine ⟨min s.length 1048576, ?_, by omega, by omega⟩
        split <;> omega
      have hn' : (n : Int) ≤ 65536 := by omega
      have hm' : (mm : Int) ≤ 1048576 := by omega
      by_cases hg : 65536 < n + (8 + mm)
      · have hg' : (65536 : Int) < (n : Int) + (8 + (mm : Int)) := by omega
        go_wp2_with fail
        go_ret
        exact ⟨true, rfl, hb, by simp⟩
      · have hg' : ¬ (65536 : Int) < (n : Int) + (8 + (mm : Int)) := by omega
        have hsl : s.length ≤ 65536 := hm2 (by omega)
        go_wp2_with fail
        go_roundw
        case rel => exact ⟨k + 1, n + (8 + mm), by omega, by go_num, by go_num, by omega, by omega, hb, fun j o hj hjo => by
          rcases Nat.lt_or_ge j k with h | h
          · exact HA.out j o h hjo
          · obtain rfl : j = k := by omega
            rw [HO.out] at hjo
            obtain rfl := Option.some.inj hjo
            exact hsl⟩
        case measure => simp [intOf]; omega
    · obtain rfl : k = S.length := by omega
      go_wp2_with fail
      go_ret
      exact ⟨false, rfl, hb, fun _ => ⟨by omega, fun o ho => by
        obtain ⟨j, hj⟩ := List.getElem?_of_mem ho
        exact HA.out j o (List.getElem?_eq_some_iff.1 hj).1 hj⟩⟩
end Go.Proofs.Ytoiaigbagfalmaa
