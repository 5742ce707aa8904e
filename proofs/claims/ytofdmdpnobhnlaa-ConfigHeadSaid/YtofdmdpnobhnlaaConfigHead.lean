/- ConfigHead: for every row of steps the law answers true. No condition. -/
import Derived.Test.YtofdmdpnobhnlaaCfgAwake
import Derived.Test.YtofdmdpnobhnlaaCfgSteps
import Derived.Deep.DeepCutAuto
import Derived.Deep.CutBlock
namespace Go.Proofs.Ytofdmdpnobhnlaa
open Go.RowKit Go.ChangeShapes Go.WideShapes Go.Joins Go.Deep
set_option linter.unusedVariables false

/-- A step: its kind, its two members. -/
structure StepV where
  kind : Int
  m1 : Int
  m2 : Int
  n1 : Int
  n2 : Int
def StepOk (s : StepV) : Prop := W64 s.kind ∧ W64 s.m1 ∧ W64 s.m2 ∧ W64 s.n1 ∧ W64 s.n2
def StepAt (w : World) (b off : Nat) (s : StepV) : Prop := w.cell? ⟨b, off, none⟩ = some (.int .i64 s.kind) ∧ w.cell? ⟨b, off + 1, none⟩ = some (.int .i64 s.m1) ∧ w.cell? ⟨b, off + 2, none⟩ = some (.int .i64 s.m2) ∧ w.cell? ⟨b, off + 3, none⟩ = some (.int .i64 s.n1) ∧ w.cell? ⟨b, off + 4, none⟩ = some (.int .i64 s.n2)
def StepsAt (w : World) (a : Option Addr) (S : List StepV) : Prop :=
  S.length ≤ maxLen ∧ (∀ s ∈ S, StepOk s) ∧ (0 < S.length → ∃ b off, a = some ⟨b, off, none⟩ ∧ b < w.heap.size ∧ ∀ i s, S[i]? = some s → StepAt w b (off + i * 5) s)
theorem StepAt.of {w w' : World} {b off : Nat} {s : StepV} (h : StepAt w b off s) (he : ∀ j, w'.cell? ⟨b, j, none⟩ = w.cell? ⟨b, j, none⟩) : StepAt w' b off s :=
  ⟨(he _).trans h.1, (he _).trans h.2.1, (he _).trans h.2.2.1, (he _).trans h.2.2.2.1, (he _).trans h.2.2.2.2⟩

set_option maxRecDepth 100000 in
theorem step_of_trod {H : Type} {enc : TypeId × Value → H} {W : World} {base : Nat} {sp : Nat → Bool} {hd : Bool} {n : Nat} {cs : List Value} {x : DataW H × List MemPlace} (hl : cs.length = 5)
    (hf : DataW.trod enc Try.prog W base sp hd n 45 cs = some x) : ∃ s : StepV, StepOk s ∧ cs = [.int .i64 s.kind, .int .i64 s.m1, .int .i64 s.m2, .int .i64 s.n1, .int .i64 s.n2] := by
  obtain ⟨ys, n', rfl, _, _, hyl, hg⟩ := DataW.trod_struct Try.underlying45 hf
  match cs, hl with
  | [c0, c1, c2, c3, c4], _ =>
    have k1 : Try.prog.cellsOf 3 = 1 := by kernel_rfl
    have k2 : Try.prog.cellsOf 27 = 2 := by kernel_rfl
    have g0 := hg 0 _ rfl
    have g1 := hg 1 _ rfl
    have g2 := hg 2 _ rfl
    simp [k1, k2] at g0 g1 g2
    rw [List.getElem?_eq_getElem (by rw [hyl]; decide)] at g0 g1 g2
    obtain ⟨z0, rfl, w0⟩ := trod_one_int g0
    obtain ⟨z1, z2, w1, w2, he⟩ := mem_of_trod (by simp) g1
    obtain ⟨z3, z4, w3, w4, he2⟩ := mem_of_trod (by simp) g2
    simp only [List.cons.injEq, and_true] at he he2
    obtain ⟨rfl, rfl⟩ := he
    obtain ⟨rfl, rfl⟩ := he2
    exact ⟨⟨z0, z1, z2, z3, z4⟩, ⟨w0, w1, w2, w3, w4⟩, rfl⟩
set_option maxRecDepth 100000 in
theorem open_steps {H : Type} {enc : TypeId × Value → H} {W : World} {base : Nat} {v : Value} {d : DataW H} {p : List MemPlace} (hv : Value.okWide Try.prog W .any base 41 v)
    (h : DataW.Trod enc Try.prog W 0 (fun _ => true) true 41 v d p) : ∃ a S cap, v = .slice a (S : List StepV).length cap ∧ StepsAt W a S := by
  obtain ⟨a0, len0, cap0, rfl⟩ := okWide_slice Try.underlying41 hv
  obtain ⟨fuel, hf⟩ := h
  rcases open_slice Try.underlying41 hf with ⟨hcs, _⟩ | ⟨a, len, cap, m, n, D, Pl, hcs, _, hl, hm, hmm, _, hi⟩
  · simp [Value.cells] at hcs
    obtain ⟨rfl, rfl, rfl⟩ := hcs
    exact ⟨none, [], 0, rfl, Nat.zero_le _, by simp, by simp⟩
  · simp [Value.cells] at hcs
    obtain ⟨rfl, rfl, rfl⟩ := hcs
    have hmc : m = cap0 := by simpa using hmm
    subst hmc
    have hC : Try.prog.cellsOf 45 = 5 := by kernel_rfl
    have key : ∀ i, i < len0 → ∃ s : StepV, StepOk s ∧ ∀ j u, ([.int .i64 s.kind, .int .i64 s.m1, .int .i64 s.m2, .int .i64 s.n1, .int .i64 s.n2] : List Value)[j]? = some u → W.cell? ((a.add (i * 5)).add j) = some u := by
      intro i hil
      obtain ⟨cs', hc, ht⟩ := hi i (by omega)
      rw [hC] at hc
      obtain ⟨_, hlen, hcell⟩ := World.cells?_some hc
      obtain ⟨s, ho, rfl⟩ := step_of_trod hlen ht
      refine ⟨s, ho, fun j u hj => ?_⟩
      have hjl := (List.getElem?_eq_some_iff.1 hj).1
      rw [hlen] at hjl
      rw [hcell j hjl, hj]
    obtain ⟨L, hLl, hL⟩ := choose_list len0 (fun i (s : StepV) => StepOk s ∧ ∀ j u, ([.int .i64 s.kind, .int .i64 s.m1, .int .i64 s.m2, .int .i64 s.n1, .int .i64 s.n2] : List Value)[j]? = some u → W.cell? ((a.add (i * 5)).add j) = some u) key
    subst hLl
    refine ⟨some a, L, m, rfl, by omega, fun s hs => ?_, fun hpos => ?_⟩
    · obtain ⟨i, hi⟩ := List.getElem?_of_mem hs
      exact (hL i s hi).1
    · obtain ⟨b, off, spot⟩ := a
      obtain ⟨o0, _, h0⟩ := key 0 hpos
      have h0 := h0 0 _ rfl
      have hspot : spot = none := by simpa [Addr.add] using World.cell?_spot h0
      subst hspot
      refine ⟨b, off, rfl, by have := World.block_lt_of_cell? _ _ h0; simpa [Addr.add] using this, fun i s hi => ?_⟩
      have h := (hL i s hi).2
      have t0 := h 0 _ rfl
      have t1 := h 1 _ rfl
      have t2 := h 2 _ rfl
      have t3 := h 3 _ rfl
      have t4 := h 4 _ rfl
      rw [addr_add, addr_add] at t0 t1 t2 t3 t4
      exact ⟨t0, t1, t2, t3, t4⟩
theorem mems_new2 (w : World) (n l m k : Int) : MemsV (w.alloc (.cells #[.int .i64 n, .int .i64 l, .int .i64 m, .int .i64 k] 27)) (.slice (some ⟨w.heap.size, 0, none⟩) 2 2) [(n, l), (m, k)] := by
  have h := BlkAt.new w 27 [.int .i64 n, .int .i64 l, .int .i64 m, .int .i64 k]
  refine ⟨_, 2, rfl, by unfold maxLen; simp, fun _ => ⟨_, 0, rfl, h.lt, fun i g hi => ?_⟩⟩
  match i, hi with
  | 0, hi =>
    simp at hi
    subst hi
    exact ⟨h.cell rfl, h.cell rfl⟩
  | 1, hi =>
    simp at hi
    subst hi
    exact ⟨h.cell rfl, h.cell rfl⟩

theorem eight_of (n : Int) : ∃ q : Int, wrap64 (1 + wrap64 ((IntKind.u64.wrap n).tmod 8)) = q ∧ 1 ≤ q ∧ q ≤ 8 := by
  have h : 0 ≤ IntKind.u64.wrap n := by
    simp only [IntKind.wrap_u64]
    omega
  rw [Int.tmod_eq_emod_of_nonneg h, IntWalk.wrap64_in (IntKind.u64.wrap n % 8) ⟨by omega, by omega⟩, IntWalk.wrap64_in _ ⟨by omega, by omega⟩]
  exact ⟨_, rfl, by omega, by omega⟩
theorem step_one (c : ConfV) (m n : Int × Int) : stepC 1 c m n = withoutC c [m, n] := rfl
theorem step_two (c : ConfV) (m n : Int × Int) : stepC 2 c m n = joinC c m.1 m.2 := rfl
theorem step_three (c : ConfV) (m n : Int × Int) : stepC 3 c m n = syncedC c m.1 m.2 := rfl

set_option maxRecDepth 100000 in
set_option maxHeartbeats 4000000 in

theorem ConfigHead_go {w : World} {n : Int} {a : Option Addr} {cap : Nat} {S : List StepV} (hS : StepsAt w a S) :
    Calls Try.prog 5 #[.int .i64 n, .slice a S.length cap] w fun e w' => e = .returned (.bool true) ∧ Below w.heap.size w w' := by
  have hlen := hS.1
  unfold maxLen at hlen
  have hb := Below.refl w.heap.size w
  have HS := Lib.hid hS
  clear hS
  obtain ⟨q, hq, hq1, hq8⟩ := eight_of n
  obtain ⟨L0, hf0, hr0⟩ := first_right hq1 hq8
  have HF := Lib.hid hf0
  have HR0 := Lib.hid hr0
  clear hf0 hr0
  go_enter Try.func5, Try.ntmps5
  go_wp2_with fail
  rw [hq]
  refine (cfirst_at (W64.mk (by omega) (by omega)) HF.out _).mono ?_
  rintro en w1 ⟨a0, cap0, rfl, hv, b1⟩
  have hb := below_step hb b1
  have hCn := hb.size
  clear b1 hq
  go_upto_region 2 with (fail)
  have hC := BlkAt.new w1 24 [.int .i64 1, .slice a0 L0.length cap0]
  have hv := hv.alloc (.cells #[.int .i64 1, .slice a0 L0.length cap0] 24)
  have hb := hb.alloc hb.size (.cells #[.int .i64 1, .slice a0 L0.length cap0] 24)
  change Code.wp _ _ _ _ (w1.alloc (.cells #[.int .i64 1, .slice a0 L0.length cap0] 24))
  change BlkAt (w1.alloc (.cells #[.int .i64 1, .slice a0 L0.length cap0] 24)) _ _ _ at hC
  generalize w1.alloc (.cells #[.int .i64 1, .slice a0 L0.length cap0] 24) = v1_0 at *
  generalize w1.heap.size = C at *
  go_wp2_with fail
  refine (awake_any _).mono ?_
  rintro en w2 ⟨rfl, b2⟩
  have hC := BlkAt.below (by exact hC) b2
  have hv := hv.below b2
  have hb := below_step hb b2
  clear b2
  by_cases h200 : S.length ≤ 200
  · have h2' : ¬ (200 : Int) < (S.length : Int) := by omega
    go_wp2_with fail
    go_loopw [41] (fun i wr => ∃ (k : Nat) (e : Int) (a1 : Option Addr) (cap1 : Nat) (L : List SeatV), k ≤ S.length ∧ i = .int .i64 k ∧ BlkAt wr C 24 [.int .i64 e, .slice a1 L.length cap1] ∧ ChainAt wr (.slice a1 L.length cap1) L ∧ Below w.heap.size w wr ∧ Aside (rightC ⟨e, L⟩ = true)) (fun i _ => S.length - (intOf i).toNat)
    case atStart => exact ⟨0, 1, a0, cap0, L0, Nat.zero_le _, rfl, hC, hv, hb, HR0.out⟩
    case round =>
      clear hC hv hb
      obtain ⟨k, e, a1, cap1, L, hk, rfl, hC, hv, hb, HR⟩ := hrel
      have hLp : 0 < L.length := (rightC_iff.1 HR.out).2.2.1
      obtain ⟨b2, off2, rfl⟩ : ∃ b off, a1 = some ⟨b, off, none⟩ := by
        obtain ⟨a, c, hv, hs⟩ := hv
        cases hv
        obtain ⟨b, off, h, _⟩ := hs.2.2 hLp
        exact ⟨b, off, h⟩
      by_cases hlt : k < S.length
      · obtain ⟨b, off, rfl, hab, hc⟩ := HS.out.2.2 (by omega)
        obtain ⟨s, hs'⟩ : ∃ s, S[k]? = some s := ⟨_, List.getElem?_eq_getElem hlt⟩
        have hsw := hc k s hs'
        have hok := HS.out.2.1 s (List.mem_of_getElem? hs')
        obtain ⟨s0, s1, s2, s3, s4⟩ := hsw.of (w' := wr) fun j => hb.cell (p := ⟨b, j, none⟩) hab
        obtain ⟨kd, m1, m2, n1, n2⟩ := s
        obtain ⟨_, hm1, hm2, _, _⟩ := hok
        simp only at s0 s1 s2 s3 s4 hm1 hm2
        clear hc hs' hsw
        obtain ⟨pe, pL, px, hP⟩ := conf_parts (stepC kd ⟨e, L⟩ (m1, m2) (n1, n2))
        have HP := Lib.hid hP
        clear hP
        have hTn := hb.size
        go_upto_region 7 with (fail)
        have lt_hC_hT : C < wr.heap.size := hC.lt
        have hT := BlkAt.new wr 45 [.int .i64 kd, .int .i64 m1, .int .i64 m2, .int .i64 n1, .int .i64 n2]
        have hC := hC.alloc (.cells #[.int .i64 kd, .int .i64 m1, .int .i64 m2, .int .i64 n1, .int .i64 n2] 45)
        have hv := hv.alloc (.cells #[.int .i64 kd, .int .i64 m1, .int .i64 m2, .int .i64 n1, .int .i64 n2] 45)
        have hb := hb.alloc hb.size (.cells #[.int .i64 kd, .int .i64 m1, .int .i64 m2, .int .i64 n1, .int .i64 n2] 45)
        change Code.wp _ _ _ _ (wr.alloc (.cells #[.int .i64 kd, .int .i64 m1, .int .i64 m2, .int .i64 n1, .int .i64 n2] 45))
        change BlkAt (wr.alloc (.cells #[.int .i64 kd, .int .i64 m1, .int .i64 m2, .int .i64 n1, .int .i64 n2] 45)) _ _ _ at hT
        generalize wr.alloc (.cells #[.int .i64 kd, .int .i64 m1, .int .i64 m2, .int .i64 n1, .int .i64 n2] 45) = v20_1 at *
        generalize wr.heap.size = T at *
        clear s0 s1 s2 s3 s4
        have fhC0 : v20_1.cell? ⟨C, 0, none⟩ = some (.int .i64 e) := hC.cell rfl
        have fhC1 : v20_1.cell? ⟨C, 1, none⟩ = some (.slice (some ⟨b2, off2, none⟩) L.length cap1) := hC.cell rfl
        have hDn := hb.size
        go_upto_region 8 with (fail)
        have lt_hC_hD : C < v20_1.heap.size := hC.lt
        have lt_hT_hD : T < v20_1.heap.size := hT.lt
        have hD := BlkAt.new v20_1 24 [.int .i64 e, .slice (some ⟨b2, off2, none⟩) L.length cap1]
        have hC := hC.alloc (.cells #[.int .i64 e, .slice (some ⟨b2, off2, none⟩) L.length cap1] 24)
        have hT := hT.alloc (.cells #[.int .i64 e, .slice (some ⟨b2, off2, none⟩) L.length cap1] 24)
        have hv := hv.alloc (.cells #[.int .i64 e, .slice (some ⟨b2, off2, none⟩) L.length cap1] 24)
        have hb := hb.alloc hb.size (.cells #[.int .i64 e, .slice (some ⟨b2, off2, none⟩) L.length cap1] 24)
        change Code.wp _ _ _ _ (v20_1.alloc (.cells #[.int .i64 e, .slice (some ⟨b2, off2, none⟩) L.length cap1] 24))
        change BlkAt (v20_1.alloc (.cells #[.int .i64 e, .slice (some ⟨b2, off2, none⟩) L.length cap1] 24)) _ _ _ at hD
        generalize v20_1.alloc (.cells #[.int .i64 e, .slice (some ⟨b2, off2, none⟩) L.length cap1] 24) = v20_2 at *
        generalize v20_1.heap.size = D at *
        clear fhC0 fhC1
        have fhT0 : v20_2.cell? ⟨T, 0, none⟩ = some (.int .i64 kd) := hT.cell rfl
        have fhT1 : v20_2.cell? ⟨T, 1, none⟩ = some (.int .i64 m1) := hT.cell rfl
        have fhT2 : v20_2.cell? ⟨T, 2, none⟩ = some (.int .i64 m2) := hT.cell rfl
        have fhT3 : v20_2.cell? ⟨T, 3, none⟩ = some (.int .i64 n1) := hT.cell rfl
        have fhT4 : v20_2.cell? ⟨T, 4, none⟩ = some (.int .i64 n2) := hT.cell rfl
        go_upto_block 2 with (fail)
        clear fhT0 fhT1 fhT2 fhT3 fhT4
        go_cut [10] from 42 to 117 (fun x wx => x = .int .i64 px ∧ ∃ (a2 : Option Addr) (cap2 : Nat), BlkAt wx D 24 [.int .i64 pe, .slice a2 pL.length cap2] ∧ ChainAt wx (.slice a2 pL.length cap2) pL ∧ BlkAt wx C 24 [.int .i64 e, .slice (some ⟨b2, off2, none⟩) L.length cap1] ∧ ChainAt wx (.slice (some ⟨b2, off2, none⟩) L.length cap1) L ∧ Below w.heap.size w wx)
        case first =>
          by_cases k1 : kd = 1
          · subst k1
            have HP1 := Lib.hid ((step_one ⟨e, L⟩ (m1, m2) (n1, n2)) ▸ HP.out)
            have fhC0 : v20_2.cell? ⟨C, 0, none⟩ = some (.int .i64 e) := hC.cell rfl
            have fhC1 : v20_2.cell? ⟨C, 1, none⟩ = some (.slice (some ⟨b2, off2, none⟩) L.length cap1) := hC.cell rfl
            have fhT0 : v20_2.cell? ⟨T, 0, none⟩ = some (.int .i64 1) := hT.cell rfl
            have fhT1 : v20_2.cell? ⟨T, 1, none⟩ = some (.int .i64 m1) := hT.cell rfl
            have fhT2 : v20_2.cell? ⟨T, 2, none⟩ = some (.int .i64 m2) := hT.cell rfl
            have fhT3 : v20_2.cell? ⟨T, 3, none⟩ = some (.int .i64 n1) := hT.cell rfl
            have fhT4 : v20_2.cell? ⟨T, 4, none⟩ = some (.int .i64 n2) := hT.cell rfl
            go_wp2_with fail
            refine (cwithout_at (by exact hv.alloc _) (by exact mems_new2 _ m1 m2 n1 n2) HP1.out).mono ?_
            rintro en w21 ⟨a2, cap2, rfl, hv2, b21⟩
            have hC := BlkAt.below (by exact hC.alloc (.cells #[.int .i64 m1, .int .i64 m2, .int .i64 n1, .int .i64 n2] 27)) b21
            have hT := BlkAt.below (by exact hT.alloc (.cells #[.int .i64 m1, .int .i64 m2, .int .i64 n1, .int .i64 n2] 27)) b21
            have hD := BlkAt.below (by exact hD.alloc (.cells #[.int .i64 m1, .int .i64 m2, .int .i64 n1, .int .i64 n2] 27)) b21
            have hv := (hv.alloc (.cells #[.int .i64 m1, .int .i64 m2, .int .i64 n1, .int .i64 n2] 27)).below b21
            have hb := below_step (hb.alloc hb.size (.cells #[.int .i64 m1, .int .i64 m2, .int .i64 n1, .int .i64 n2] 27)) b21
            clear fhC0 fhC1 fhT0 fhT1 fhT2 fhT3 fhT4 b21
            have fhD0 : w21.cell? ⟨D, 0, none⟩ = some (.int .i64 e) := hD.cell rfl
            have fhD1 : w21.cell? ⟨D, 1, none⟩ = some (.slice (some ⟨b2, off2, none⟩) L.length cap1) := hD.cell rfl
            have hf := hD.free
            go_wp2_with fail
            go_meet
            clear fhD0 fhD1
            clear hf
            have G1 := grown_setCell w21 D 0 (.int .i64 pe)
            have G2 := grown_setCell (w21.setCell ⟨D, 0, none⟩ (.int .i64 pe)) D 1 (.slice a2 pL.length cap2)
            have hv := (hv.set2 hD 0 (.int .i64 pe)).set2 (hD.set 0 (.int .i64 pe)) 1 (.slice a2 pL.length cap2)
            have hv2 := (hv2.set2 hD 0 (.int .i64 pe)).set2 (hD.set 0 (.int .i64 pe)) 1 (.slice a2 pL.length cap2)
            have hC := (hC.grown G1 (Nat.ne_of_lt lt_hC_hD)).grown G2 (Nat.ne_of_lt lt_hC_hD)
            have hT := (hT.grown G1 (Nat.ne_of_lt lt_hT_hD)).grown G2 (Nat.ne_of_lt lt_hT_hD)
            have hb := grown_below (grown_below hb G1 hDn) G2 hDn
            have hD := (hD.set 0 (.int .i64 pe)).set 1 (.slice a2 pL.length cap2)
            clear G1 G2
            change BlkAt ((w21.setCell ⟨D, 0, none⟩ (.int .i64 pe)).setCell ⟨D, 1, none⟩ (.slice a2 pL.length cap2)) D 24 [.int .i64 pe, .slice a2 pL.length cap2] at hD
            exact ⟨rfl, a2, cap2, hD, hv2, hC, hv, hb⟩
          · have k1' : (kd == 1) = false := by simpa using k1
            by_cases k2 : kd = 2
            · subst k2
              have HP1 := Lib.hid ((step_two ⟨e, L⟩ (m1, m2) (n1, n2)) ▸ HP.out)
              have fhC0 : v20_2.cell? ⟨C, 0, none⟩ = some (.int .i64 e) := hC.cell rfl
              have fhC1 : v20_2.cell? ⟨C, 1, none⟩ = some (.slice (some ⟨b2, off2, none⟩) L.length cap1) := hC.cell rfl
              have fhT0 : v20_2.cell? ⟨T, 0, none⟩ = some (.int .i64 2) := hT.cell rfl
              have fhT1 : v20_2.cell? ⟨T, 1, none⟩ = some (.int .i64 m1) := hT.cell rfl
              have fhT2 : v20_2.cell? ⟨T, 2, none⟩ = some (.int .i64 m2) := hT.cell rfl
              have fhT3 : v20_2.cell? ⟨T, 3, none⟩ = some (.int .i64 n1) := hT.cell rfl
              have fhT4 : v20_2.cell? ⟨T, 4, none⟩ = some (.int .i64 n2) := hT.cell rfl
              go_wp2_with fail
              refine (cjoin_at (by exact hv) hm1 hm2 HP1.out).mono ?_
              rintro en w21 ⟨a2, cap2, rfl, hv2, b21⟩
              have hC := BlkAt.below (by exact hC) b21
              have hT := BlkAt.below (by exact hT) b21
              have hD := BlkAt.below (by exact hD) b21
              have hv := hv.below b21
              have hb := below_step hb b21
              clear fhC0 fhC1 fhT0 fhT1 fhT2 fhT3 fhT4 b21
              have fhD0 : w21.cell? ⟨D, 0, none⟩ = some (.int .i64 e) := hD.cell rfl
              have fhD1 : w21.cell? ⟨D, 1, none⟩ = some (.slice (some ⟨b2, off2, none⟩) L.length cap1) := hD.cell rfl
              have hf := hD.free
              go_wp2_with fail
              go_meet
              clear fhD0 fhD1
              clear hf
              have G1 := grown_setCell w21 D 0 (.int .i64 pe)
              have G2 := grown_setCell (w21.setCell ⟨D, 0, none⟩ (.int .i64 pe)) D 1 (.slice a2 pL.length cap2)
              have hv := (hv.set2 hD 0 (.int .i64 pe)).set2 (hD.set 0 (.int .i64 pe)) 1 (.slice a2 pL.length cap2)
              have hv2 := (hv2.set2 hD 0 (.int .i64 pe)).set2 (hD.set 0 (.int .i64 pe)) 1 (.slice a2 pL.length cap2)
              have hC := (hC.grown G1 (Nat.ne_of_lt lt_hC_hD)).grown G2 (Nat.ne_of_lt lt_hC_hD)
              have hT := (hT.grown G1 (Nat.ne_of_lt lt_hT_hD)).grown G2 (Nat.ne_of_lt lt_hT_hD)
              have hb := grown_below (grown_below hb G1 hDn) G2 hDn
              have hD := (hD.set 0 (.int .i64 pe)).set 1 (.slice a2 pL.length cap2)
              clear G1 G2
              change BlkAt ((w21.setCell ⟨D, 0, none⟩ (.int .i64 pe)).setCell ⟨D, 1, none⟩ (.slice a2 pL.length cap2)) D 24 [.int .i64 pe, .slice a2 pL.length cap2] at hD
              exact ⟨rfl, a2, cap2, hD, hv2, hC, hv, hb⟩
            · have k2' : (kd == 2) = false := by simpa using k2
              by_cases k3 : kd = 3
              · subst k3
                have HP1 := Lib.hid ((step_three ⟨e, L⟩ (m1, m2) (n1, n2)) ▸ HP.out)
                have fhC0 : v20_2.cell? ⟨C, 0, none⟩ = some (.int .i64 e) := hC.cell rfl
                have fhC1 : v20_2.cell? ⟨C, 1, none⟩ = some (.slice (some ⟨b2, off2, none⟩) L.length cap1) := hC.cell rfl
                have fhT0 : v20_2.cell? ⟨T, 0, none⟩ = some (.int .i64 3) := hT.cell rfl
                have fhT1 : v20_2.cell? ⟨T, 1, none⟩ = some (.int .i64 m1) := hT.cell rfl
                have fhT2 : v20_2.cell? ⟨T, 2, none⟩ = some (.int .i64 m2) := hT.cell rfl
                have fhT3 : v20_2.cell? ⟨T, 3, none⟩ = some (.int .i64 n1) := hT.cell rfl
                have fhT4 : v20_2.cell? ⟨T, 4, none⟩ = some (.int .i64 n2) := hT.cell rfl
                go_wp2_with fail
                refine (csynced_at (by exact hv) hm1 hm2 HP1.out).mono ?_
                rintro en w21 ⟨a2, cap2, rfl, hv2, b21⟩
                have hC := BlkAt.below (by exact hC) b21
                have hT := BlkAt.below (by exact hT) b21
                have hD := BlkAt.below (by exact hD) b21
                have hv := hv.below b21
                have hb := below_step hb b21
                clear fhC0 fhC1 fhT0 fhT1 fhT2 fhT3 fhT4 b21
                have fhD0 : w21.cell? ⟨D, 0, none⟩ = some (.int .i64 e) := hD.cell rfl
                have fhD1 : w21.cell? ⟨D, 1, none⟩ = some (.slice (some ⟨b2, off2, none⟩) L.length cap1) := hD.cell rfl
                have hf := hD.free
                go_wp2_with fail
                go_meet
                clear fhD0 fhD1
                clear hf
                have G1 := grown_setCell w21 D 0 (.int .i64 pe)
                have G2 := grown_setCell (w21.setCell ⟨D, 0, none⟩ (.int .i64 pe)) D 1 (.slice a2 pL.length cap2)
                have hv := (hv.set2 hD 0 (.int .i64 pe)).set2 (hD.set 0 (.int .i64 pe)) 1 (.slice a2 pL.length cap2)
                have hv2 := (hv2.set2 hD 0 (.int .i64 pe)).set2 (hD.set 0 (.int .i64 pe)) 1 (.slice a2 pL.length cap2)
                have hC := (hC.grown G1 (Nat.ne_of_lt lt_hC_hD)).grown G2 (Nat.ne_of_lt lt_hC_hD)
                have hT := (hT.grown G1 (Nat.ne_of_lt lt_hT_hD)).grown G2 (Nat.ne_of_lt lt_hT_hD)
                have hb := grown_below (grown_below hb G1 hDn) G2 hDn
                have hD := (hD.set 0 (.int .i64 pe)).set 1 (.slice a2 pL.length cap2)
                clear G1 G2
                change BlkAt ((w21.setCell ⟨D, 0, none⟩ (.int .i64 pe)).setCell ⟨D, 1, none⟩ (.slice a2 pL.length cap2)) D 24 [.int .i64 pe, .slice a2 pL.length cap2] at hD
                exact ⟨rfl, a2, cap2, hD, hv2, hC, hv, hb⟩
              · have k3' : (kd == 3) = false := by simpa using k3
                have HP1 := HP.out
                rw [stepC, if_neg k1, if_neg k2, if_neg k3] at HP1
                simp only [Prod.mk.injEq, ConfV.mk.injEq] at HP1
                obtain ⟨⟨rfl, rfl⟩, rfl⟩ := HP1
                go_wp2_with fail
                go_meet
                exact ⟨rfl, some ⟨b2, off2, none⟩, cap1, hD, hv, hC, hv, hb⟩
        case rest =>
          obtain ⟨rfl, a2, cap2, hD, hv2, hC, hv, hb⟩ := hcut
          clear hT lt_hT_hD
          by_cases h0 : px = 0
          · subst h0
            obtain ⟨hrd, hfo, hee, t0, t1, ix, ht0, hpl, ht1, hsy⟩ := step_facts (c := ⟨e, L⟩) HR.out HP.out
            obtain ⟨tn, tl, tz⟩ := t0
            obtain ⟨un, ul, uz⟩ := t1
            simp only at ht0 hpl ht1 hsy hee
            subst hsy
            have hixl : (ix : Int) < (L.length : Int) := by have := (List.getElem?_eq_some_iff.1 ht1).1; omega
            have hix0 : ¬ (ix : Int) < 0 := by omega
            have hix1 : (0 : Int) ≤ ix := by omega
            have hee' : ¬ pe < e := by omega
            have hat : atC pL 0 = (tn, tl, true) := atC_in (i := 0) ht0
            have HAT := Lib.hid hat
            have HPL := Lib.hid hpl
            have HT1 := Lib.hid ht1
            have HRD := Lib.hid hrd
            have HFO := Lib.hid hfo
            clear ht0 hpl ht1 hrd hfo hat
            have fhD0 : wc.cell? ⟨D, 0, none⟩ = some (.int .i64 pe) := hD.cell rfl
            have fhD1 : wc.cell? ⟨D, 1, none⟩ = some (.slice a2 pL.length cap2) := hD.cell rfl
            go_wp2_with fail
            refine (chead_at (by exact hv2) pe HAT.out).mono ?_
            rintro en w31 ⟨rfl, b31⟩
            have hC := BlkAt.below (by exact hC) b31
            have hD := BlkAt.below (by exact hD) b31
            have hv := hv.below b31
            have hv2 := hv2.below b31
            have hb := below_step hb b31
            clear fhD0 fhD1 b31
            go_upto_region 17 with (fail)
            have hM := BlkAt.new w31 27 [.int .i64 tn, .int .i64 tl]
            have hC := hC.alloc (.cells #[.int .i64 tn, .int .i64 tl] 27)
            have hD := hD.alloc (.cells #[.int .i64 tn, .int .i64 tl] 27)
            have hv := hv.alloc (.cells #[.int .i64 tn, .int .i64 tl] 27)
            have hv2 := hv2.alloc (.cells #[.int .i64 tn, .int .i64 tl] 27)
            have hb := hb.alloc hb.size (.cells #[.int .i64 tn, .int .i64 tl] 27)
            change Code.wp _ _ _ _ (w31.alloc (.cells #[.int .i64 tn, .int .i64 tl] 27))
            change BlkAt (w31.alloc (.cells #[.int .i64 tn, .int .i64 tl] 27)) _ _ _ at hM
            generalize w31.alloc (.cells #[.int .i64 tn, .int .i64 tl] 27) = v31_2 at *
            generalize w31.heap.size = M at *
            have fhC0 : v31_2.cell? ⟨C, 0, none⟩ = some (.int .i64 e) := hC.cell rfl
            have fhC1 : v31_2.cell? ⟨C, 1, none⟩ = some (.slice (some ⟨b2, off2, none⟩) L.length cap1) := hC.cell rfl
            have fhM0 : v31_2.cell? ⟨M, 0, none⟩ = some (.int .i64 tn) := hM.cell rfl
            have fhM1 : v31_2.cell? ⟨M, 1, none⟩ = some (.int .i64 tl) := hM.cell rfl
            go_wp2_with fail
            refine (cplace_at (by exact hv) e HPL.out).mono ?_
            rintro en w32 ⟨rfl, b32⟩
            have hC := BlkAt.below (by exact hC) b32
            have hD := BlkAt.below (by exact hD) b32
            have hM := BlkAt.below (by exact hM) b32
            have hv := hv.below b32
            have hv2 := hv2.below b32
            have hb := below_step hb b32
            clear fhC0 fhC1 fhM0 fhM1 b32
            have hc2 : ∀ i s, L[i]? = some s → SeatAt w32 b2 (off2 + i * 3) s := by
              obtain ⟨a, c, hv, hs⟩ := hv
              cases hv
              obtain ⟨b, off, h, _, h3⟩ := hs.2.2 hLp
              cases h
              exact h3
            obtain ⟨_, _, r2⟩ := hc2 ix _ HT1.out
            clear hc2
            simp only at r2
            have fhC0 : w32.cell? ⟨C, 0, none⟩ = some (.int .i64 e) := hC.cell rfl
            have fhC1 : w32.cell? ⟨C, 1, none⟩ = some (.slice (some ⟨b2, off2, none⟩) L.length cap1) := hC.cell rfl
            have fhD0 : w32.cell? ⟨D, 0, none⟩ = some (.int .i64 pe) := hD.cell rfl
            have fhD1 : w32.cell? ⟨D, 1, none⟩ = some (.slice a2 pL.length cap2) := hD.cell rfl
            go_wp2_with fail
            refine (cfollows_at (by exact hv) (by exact hv2) HFO.out).mono ?_
            rintro en w33 ⟨rfl, b33⟩
            have hC := BlkAt.below (by exact hC) b33
            have hD := BlkAt.below (by exact hD) b33
            have hM := BlkAt.below (by exact hM) b33
            have hv := hv.below b33
            have hv2 := hv2.below b33
            have hb := below_step hb b33
            clear fhC0 fhC1 fhD0 fhD1 b33
            clear r2
            have fhC0 : w33.cell? ⟨C, 0, none⟩ = some (.int .i64 e) := hC.cell rfl
            have fhC1 : w33.cell? ⟨C, 1, none⟩ = some (.slice (some ⟨b2, off2, none⟩) L.length cap1) := hC.cell rfl
            have fhD0 : w33.cell? ⟨D, 0, none⟩ = some (.int .i64 pe) := hD.cell rfl
            have fhD1 : w33.cell? ⟨D, 1, none⟩ = some (.slice a2 pL.length cap2) := hD.cell rfl
            have hf := hC.free
            go_wp2_with fail
            clear hf
            clear fhC0 fhC1 fhD0 fhD1
            clear hM
            go_roundw
            case rel =>
              have G1 := grown_setCell w33 C 0 (.int .i64 pe)
              have G2 := grown_setCell (w33.setCell ⟨C, 0, none⟩ (.int .i64 pe)) C 1 (.slice a2 pL.length cap2)
              have hv := (hv.set2 hC 0 (.int .i64 pe)).set2 (hC.set 0 (.int .i64 pe)) 1 (.slice a2 pL.length cap2)
              have hv2 := (hv2.set2 hC 0 (.int .i64 pe)).set2 (hC.set 0 (.int .i64 pe)) 1 (.slice a2 pL.length cap2)
              have hD := (hD.grown G1 (Nat.ne_of_gt lt_hC_hD)).grown G2 (Nat.ne_of_gt lt_hC_hD)
              have hb := grown_below (grown_below hb G1 hCn) G2 hCn
              have hC := (hC.set 0 (.int .i64 pe)).set 1 (.slice a2 pL.length cap2)
              clear G1 G2
              change BlkAt ((w33.setCell ⟨C, 0, none⟩ (.int .i64 pe)).setCell ⟨C, 1, none⟩ (.slice a2 pL.length cap2)) C 24 [.int .i64 pe, .slice a2 pL.length cap2] at hC
              exact ⟨k + 1, pe, a2, cap2, pL, by omega, by go_num, hC, hv2, hb, HRD.out⟩
            case measure => simp [intOf]; omega
          · have h0' : (px != 0) = true := by simpa using h0
            go_wp2_with fail
            go_roundw
            case rel => exact ⟨k + 1, e, some ⟨b2, off2, none⟩, cap1, L, by omega, by go_num, hC, hv, hb, HR.out⟩
            case measure => simp [intOf]; omega
      · obtain rfl : k = S.length := by omega
        go_wp2_with fail
        go_ret
        exact ⟨rfl, hb⟩
  · have h2' : (200 : Int) < (S.length : Int) := by omega
    go_wp2_with fail
    refine (awake_any _).mono ?_
    rintro en w9 ⟨rfl, b9⟩
    have hb := below_step hb b9
    go_wp2_with fail
    go_ret
    exact ⟨rfl, hb⟩

set_option maxRecDepth 100000 in
theorem ConfigHead_walk {H : Type} {enc : TypeId × Value → H} {base : Nat} {d : DataW H} {p : List MemPlace} (n : Int) (v : Value) (w : World) (hn : W64 n) (hv : Value.okWide Try.prog w .any base 41 v) (ht : DataW.Trod enc Try.prog w 0 (fun _ => true) true 41 v d p) :
    Calls Try.prog 5 #[.int .i64 n, v] w fun e w' => e = .returned (.bool true) ∧ Below w.heap.size w w' := by
  obtain ⟨a, S, cap, rfl, hS⟩ := open_steps hv ht
  exact ConfigHead_go hS


set_option maxRecDepth 100000 in
theorem ConfigHead_calls (H : Type) (enc : TypeId × Value → H) (W : World) (base : Nat) (args : Array Value) (ds gs : List (DataW H)) (before : List MemPlace)
    (hval : ∀ (j : Nat) t v, Try.f5.params[j]? = some t → args[j]? = some v → Value.okWide Try.prog W .any base t v)
    (hW : DataW.Whole enc Try.prog Try.f5.params.toList Rows.configHeadSpec.vars false W args.toList ds gs before) :
    Calls Try.prog 5 args W fun e W' => e = .returned (.bool true) ∧ Below W.heap.size W W' := by
  obtain ⟨p, q, hA, hV, rfl, hfz, hnd⟩ := hW
  rw [Try.params5] at hA hval
  obtain ⟨v0, vs0, d0, ds0, p0, q0, hargs, rfl, rfl, h0, r0⟩ := trodAll_cons hA
  obtain ⟨v1, vs1, d1, ds1, p1, q1, rfl, rfl, rfl, h1, r1⟩ := trodAll_cons r0
  obtain ⟨rfl, rfl, rfl⟩ := trodAll_nil r1
  obtain rfl : args = #[v0, v1] := Array.toList_inj.1 hargs
  obtain ⟨x0, rfl, rfl, rfl, w0⟩ := open_int Try.underlying3 (hval 0 3 v0 rfl rfl) h0
  exact ConfigHead_walk x0 v1 W w0 (hval 1 41 v1 rfl rfl) h1

set_option maxRecDepth 100000 in
theorem ConfigHead_lifted (os : Os) (started : os.Started) (H : Type) (enc : TypeId × Value → H) :
    ReturnsInHanded {} Try.checked os 5 .any (Rows.configHeadSpec.pre6 enc Try.prog Try.f5 Rows.configHeadRow.domain false) (Rows.configHeadSpec.post enc Try.prog Try.f5 false true false false) := by
  refine returnsInHanded_of_change (C := Try.checked) own started (by kernel_rfl) Try.func5
    (ChangeSpec.witness6 (enc := enc) (C := Try.checked) false ⟨#[], #[.int .i64 0, .slice none 0 0], []⟩ 8 (by kernel_rfl) (by kernel_rfl) (by kernel_rfl) (by kernel_rfl)) ?_
  intro W base args ds gs before hval0 hW hcnd _
  have hval : ∀ (j : Nat) t v, Try.f5.params[j]? = some t → args[j]? = some v → Value.okWide Try.prog W .any base t v := hval0
  refine (ConfigHead_calls H enc W base args ds gs before hval hW).mono fun e W' ⟨he, bel⟩ => ?_
  exact ⟨_, he, law_post (ts := [3, 41]) (by rw [Try.params5]) (by intro t ht; simp only [List.mem_cons, List.not_mem_nil, or_false] at ht; rcases ht with rfl | rfl <;> exact ⟨by kernel_rfl, of_decide_eq_true (by kernel_rfl)⟩) hW rfl
    (fun ds h => by match ds, h with | [_, _], _ => rfl) (by kernel_rfl) bel⟩

theorem ConfigHead_over : Rows.configHeadRow.holds Try.pinned (OpenSpec.ofChange Rows.configHeadSpec) :=
  OpenClaim.holds_of_wide 5 Try.f5 rfl rfl rfl rfl rfl rfl rfl ⟨rfl, rfl, rfl, rfl, rfl⟩ rfl rfl rfl rfl rfl (by kernel_rfl) Try.func5 (by kernel_rfl)
    (of_decide_eq_true (by kernel_rfl)) (by unfold Func.isWrapper; first | (rw [if_pos (by decide +kernel)]; kernel_rfl) | (rw [if_neg (by decide +kernel)]; exact ⟨rfl, rfl⟩))
    (fun os started H enc _ => ConfigHead_lifted os started H enc)

/-- The statement. -/
theorem ConfigHead_proved : Rows.ConfigHeadSaid := ConfigHead_over

end Go.Proofs.Ytofdmdpnobhnlaa
