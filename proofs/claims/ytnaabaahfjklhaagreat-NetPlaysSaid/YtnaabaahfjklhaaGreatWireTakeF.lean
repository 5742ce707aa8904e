/- The desk's fires, read. -/
import Derived.Test.YtnaabaahfjklhaaGreatWireTake
import Derived.Laws.MakeOwn
import Derived.Test.YtnaabaahfjklhaaGreatKWMsg
namespace Go.Proofs.YtnaabaahfjklhaaGreat
open Go.RowKit Go.ChangeShapes Go.WideShapes Go.Joins Go.Deep
set_option linter.unusedVariables false

def firesCells (L : List FireV) : List Value := L.flatMap fun f => icells f.nums
theorem firesCells_len (L : List FireV) : (firesCells L).length = L.length * 6 := by
  induction L with
  | nil => rfl
  | cons f L ih =>
    have : firesCells (f :: L) = icells f.nums ++ firesCells L := rfl
    rw [this, List.length_append, ih, List.length_cons, icells_len]
    show 6 + L.length * 6 = (L.length + 1) * 6
    omega
theorem firesCells_snoc (L : List FireV) (f : FireV) : firesCells (L ++ [f]) = firesCells L ++ icells f.nums := by simp [firesCells]
theorem firesCells_at : ∀ (L : List FireV) (i : Nat) (f : FireV) (j : Nat) (x : Int), L[i]? = some f → f.nums[j]? = some x → (firesCells L)[i * 6 + j]? = some (.int .i64 x)
  | [], i, f, j, x, h, _ => by simp at h
  | g :: L, 0, f, j, x, h, hj => by
    obtain rfl : g = f := by simpa using h
    have hjl := (List.getElem?_eq_some_iff.1 hj).1
    have e : firesCells (g :: L) = icells g.nums ++ firesCells L := rfl
    rw [e, List.getElem?_append_left (by rw [icells_len]; omega), Nat.zero_mul, Nat.zero_add]
    exact icells_get hj
  | g :: L, i + 1, f, j, x, h, hj => by
    have h1 := firesCells_at L i f j x (by simpa using h) hj
    have e : firesCells (g :: L) = icells g.nums ++ firesCells L := rfl
    have h6 : (icells g.nums).length = 6 := rfl
    rw [e, List.getElem?_append_right (by rw [h6]; omega), h6, ← h1]
    congr 1
    omega
def zeros (n : Nat) : List Value := List.replicate n (.int .i64 0)
theorem zeros_six (n : Nat) : zeros (n + 6) = .int .i64 0 :: .int .i64 0 :: .int .i64 0 :: .int .i64 0 :: .int .i64 0 :: .int .i64 0 :: zeros n := by
  simp [zeros, List.replicate_succ]
theorem made_fires (n : Nat) : madeCells #[.int .i64 0, .int .i64 0, .int .i64 0, .int .i64 0, .int .i64 0, .int .i64 0] n = (zeros n).toArray := by
  apply Array.ext
  · simp [madeCells, zeros]
  · intro i h1 h2
    simp only [madeCells, Array.getElem_map, Array.getElem_range, zeros, List.getElem_toArray, List.getElem_replicate]
    have h : i % 6 = 0 ∨ i % 6 = 1 ∨ i % 6 = 2 ∨ i % 6 = 3 ∨ i % 6 = 4 ∨ i % 6 = 5 := by omega
    show #[Value.int .i64 0, .int .i64 0, .int .i64 0, .int .i64 0, .int .i64 0, .int .i64 0][i % 6]! = _
    rcases h with h | h | h | h | h | h <;> rw [h] <;> rfl
theorem fire_info : (Tryz.prog.info? 99).map (fun i => (i.zero, i.size, i.bytes)) = some (some (.agg #[.int .i64 0, .int .i64 0, .int .i64 0, .int .i64 0, .int .i64 0, .int .i64 0]), 6, 48) := by kernel_rfl
theorem make_fires {n : Nat} (hn : n ≤ 8) (k : IntKind) (w : World) : (Instr.makeSlice 38 (.int k (n : Int)) (.int k (n : Int))).run Tryz.prog w = .ok (.slice (some ⟨w.heap.size, 0, none⟩) n n) (w.alloc (.cells (zeros (n * 6)).toArray 99)) := by
  obtain ⟨i0, hi, hz, hs, hb⟩ := info_parts fire_info
  have h := run_make (P := Tryz.prog) w 38 99 i0 _ Tryz.underlying38 hi hz k k n n (by omega) (by omega) (by rw [hb]; omega) (by omega)
  rw [h, hs, ← made_fires]
  rfl
/-- Six numbers stored one behind the other. -/
theorem upd_six (X k : Nat) (A : List Value) (hA : A.length = k * 6) (n : Nat) (v0 v1 v2 v3 v4 v5 : Int) :
    updB X (List.zip [(X, k * 6), (X, k * 6 + 1), (X, k * 6 + 2), (X, k * 6 + 3), (X, k * 6 + 4), (X, k * 6 + 5)] [v0, v1, v2, v3, v4, v5]) (A ++ zeros (n + 6)).toArray = (A ++ icells [v0, v1, v2, v3, v4, v5] ++ zeros n).toArray := by
  rw [zeros_six]
  simp only [updB, List.zip_cons_cons, List.zip_nil_right, List.foldl_cons, List.foldl_nil, if_true, List.setIfInBounds_toArray, ← hA]
  simp [icells]
theorem list6 {l : List Int} (h : l.length = 6) : ∃ a b c d e f, l = [a, b, c, d, e, f] := by
  match l, h with
  | [a, b, c, d, e, f], _ => exact ⟨a, b, c, d, e, f, rfl⟩

set_option maxRecDepth 100000 in
set_option maxHeartbeats 1000000 in

theorem dfires_many {w : World} {r d m : Nat} {l : List UInt8} {e : Int} {cs : List Value} (hD : BlkAt w d 118 [.pointer (some ⟨m, 0, none⟩), .pointer none, .pointer (some ⟨r, 0, none⟩)]) (hM : BlkAt w m 40 cs)
    (hR : RdAt w r l e) (hl : l.length ≤ 1000000) {n : Nat} {l1 : List UInt8} {e1 : Int} (hr : rdU l e = (n, l1, e1)) (hn : 8 < n) :
    Calls Tryz.prog 87 #[.pointer (some ⟨d, 0, none⟩)] w fun en w' => en = .returned (.tuple #[]) ∧ RdAt w' r l1 (fst_ e1 3) ∧ BlkAt w' m 40 cs ∧ RKeep w w' r m := by
  have hmr := msg_rd hM hR
  have hdr := desk_rd hD hR
  have c1 : w.cell? ⟨d, 1, none⟩ = some (.pointer none) := hD.cell rfl
  have c2 : w.cell? ⟨d, 2, none⟩ = some (.pointer (some ⟨r, 0, none⟩)) := hD.cell rfl
  have hn' : (8 : Int) < (n : Int) := by omega
  have HRR := Lib.hid hr
  clear hr
  go_enter Tryz.func87, Tryz.ntmps87
  go_wp2_with fail
  refine (ruint_any (by exact hR) hl).mono ?_
  rintro en w1 ⟨rfl, hR1, hg⟩
  rw [HRR.out] at hR1
  rw [HRR.out]
  have hD1 := hD.grown hg hdr
  have hM1 := hM.grown hg hmr
  have hk1 : RKeep w w1 r m := RKeep.grown hg
  clear c1 c2 hg hD hM hR
  have c2 : w1.cell? ⟨d, 2, none⟩ = some (.pointer (some ⟨r, 0, none⟩)) := hD1.cell rfl
  go_wp2_with fail
  refine (fail_any hR1).mono ?_
  rintro en w3 ⟨rfl, hR3, hg⟩
  have hM3 := hM1.grown hg hmr
  have hk3 := hk1.trans (RKeep.grown hg)
  clear c2 hg hR1 hM1 hk1
  go_wp2_with fail
  refine bodyPost_ret (results_none rfl _ _ _) rfl ?_
  exact ⟨rfl, hR3, hM3, hk3⟩

set_option maxRecDepth 100000 in
set_option maxHeartbeats 4000000 in

theorem dfires_few {w : World} {r d m : Nat} {l : List UInt8} {e : Int} {cs : List Value} {vv : Value} (hD : BlkAt w d 118 [.pointer (some ⟨m, 0, none⟩), .pointer none, .pointer (some ⟨r, 0, none⟩)]) (hM : BlkAt w m 40 cs) (h26 : cs[26]? = some vv)
    (hR : RdAt w r l e) (hl : l.length ≤ 1000000) {n : Nat} {l1 : List UInt8} {e1 : Int} (hr : rdU l e = (n, l1, e1)) (hn : n ≤ 8) {L : List FireV} {l2 : List UInt8} {e2 : Int} (hx : rdFires n l1 e1 = (L, l2, e2)) :
    Calls Tryz.prog 87 #[.pointer (some ⟨d, 0, none⟩)] w fun en w' => en = .returned (.tuple #[]) ∧ RdAt w' r l2 e2 ∧ (∃ v, FiresFrom w.heap.size w' v L ∧ BlkAt w' m 40 (cs.set 26 v)) ∧ RKeep w w' r m := by
  have hmr := msg_rd hM hR
  have hdr := desk_rd hD hR
  have hdm := desk_msg hD hM
  have hl1 : l1.length ≤ 1000000 := by have := rdU_len l e; rw [hr] at this; exact Nat.le_trans this hl
  have c1 : w.cell? ⟨d, 1, none⟩ = some (.pointer none) := hD.cell rfl
  have c2 : w.cell? ⟨d, 2, none⟩ = some (.pointer (some ⟨r, 0, none⟩)) := hD.cell rfl
  have hn' : ¬ (8 : Int) < (n : Int) := by omega
  have HRR := Lib.hid hr
  have HX := Lib.hid hx
  clear hr hx
  go_enter Tryz.func87, Tryz.ntmps87
  go_wp2_with fail
  refine (ruint_any (by exact hR) hl).mono ?_
  rintro en w1 ⟨rfl, hR1, hg⟩
  rw [HRR.out] at hR1
  rw [HRR.out]
  have hD1 := hD.grown hg hdr
  have hM1 := hM.grown hg hmr
  have hk1 : RKeep w w1 r m := RKeep.grown hg
  have hw1 := hg.size
  have hdl := hD.lt
  have hml := hM.lt
  have hrl := hR.lt
  clear c1 c2 hg hD hM hR
  have c0 : w1.cell? ⟨d, 0, none⟩ = some (.pointer (some ⟨m, 0, none⟩)) := hD1.cell rfl
  have hmk := fun W => make_fires hn .u64 W
  go_upto_region 5 with (fail)
  have G := grown_setCell ((w1.alloc (.cells (zeros (n * 6)).toArray 99)).drew) m 26 (.slice (some ⟨w1.heap.size, 0, none⟩) n n)
  have hX3 : BlkAt ((w1.alloc (.cells (zeros (n * 6)).toArray 99)).drew.setCell ⟨m, 26, none⟩ (.slice (some ⟨w1.heap.size, 0, none⟩) n n)) w1.heap.size 99 (zeros (n * 6)) := (BlkAt.new w1 99 (zeros (n * 6))).drew.grown G (by show w1.heap.size ≠ m; omega)
  have hD3 : BlkAt ((w1.alloc (.cells (zeros (n * 6)).toArray 99)).drew.setCell ⟨m, 26, none⟩ (.slice (some ⟨w1.heap.size, 0, none⟩) n n)) d 118 _ := (hD1.alloc (.cells (zeros (n * 6)).toArray 99)).drew.grown G hdm
  have hM3 : BlkAt ((w1.alloc (.cells (zeros (n * 6)).toArray 99)).drew.setCell ⟨m, 26, none⟩ (.slice (some ⟨w1.heap.size, 0, none⟩) n n)) m 40 (cs.set 26 (.slice (some ⟨w1.heap.size, 0, none⟩) n n)) := (hM1.alloc (.cells (zeros (n * 6)).toArray 99)).drew.set 26 (.slice (some ⟨w1.heap.size, 0, none⟩) n n)
  have hR3 : RdAt ((w1.alloc (.cells (zeros (n * 6)).toArray 99)).drew.setCell ⟨m, 26, none⟩ (.slice (some ⟨w1.heap.size, 0, none⟩) n n)) r l1 e1 := RdAt.grown (w := (w1.alloc (.cells (zeros (n * 6)).toArray 99)).drew) (RdAt.alloc hR1 (.cells (zeros (n * 6)).toArray 99)) G hmr.symm
  have hk3 : RKeep w ((w1.alloc (.cells (zeros (n * 6)).toArray 99)).drew.setCell ⟨m, 26, none⟩ (.slice (some ⟨w1.heap.size, 0, none⟩) n n)) r m := (hk1.trans (RKeep.below ((Below.refl _ _).alloc (Nat.le_refl _) (.cells (zeros (n * 6)).toArray 99)))).drew.trans (RKeep.grownM G)
  have hXs : w1.heap.size + 1 ≤ ((w1.alloc (.cells (zeros (n * 6)).toArray 99)).drew.setCell ⟨m, 26, none⟩ (.slice (some ⟨w1.heap.size, 0, none⟩) n n)).heap.size := by simp [World.setCell]
  refine wp_region_noPanic ?_
  refine wp_region_held_drew (S := (fun w' => w'.cell? ⟨d, 0, none⟩ = some (.pointer (some ⟨m, 0, none⟩)))) (by kernel_rfl) (by exact c0) (fun hHeld => ?_)
  refine wpAnyH_take (i := 0) (oi := ?oq_1_0) (v := ?va_1_0) ?op_1_0 (by kernel_rfl) (by kernel_rfl) (by kernel_rfl) (fun _ _ _ h => h) ?yi_1_0 hHeld ?re_1_0
  case op_1_0 => (simp only [List.getElem?_toArray, List.getElem?_cons_zero]; rfl)
  case yi_1_0 =>
    refine Or.inl ⟨by rfl, ?_⟩
    intro w hSw
    try dsimp only at hSw
    go_simp
    all_goals with_reducible rfl
  try simp only [Act.put, List.setIfInBounds_toArray, List.set_cons_zero, List.set_cons_succ]
  refine wpAnyH_take (i := 1) (oi := ?oq_1_1) (v := ?va_1_1) ?op_1_1 (by kernel_rfl) (by kernel_rfl) (by kernel_rfl) (fun _ _ _ h => h) ?yi_1_1 hHeld ?re_1_1
  case op_1_1 => (simp only [List.getElem?_toArray, List.getElem?_cons_succ, List.getElem?_cons_zero]; rfl)
  case yi_1_1 =>
    refine Or.inl ⟨by rfl, ?_⟩
    intro w hSw
    try dsimp only at hSw
    go_simp
    all_goals with_reducible rfl
  try simp only [Act.put, List.setIfInBounds_toArray, List.set_cons_zero, List.set_cons_succ]
  refine wpAnyH_take (i := 2) (oi := ?oq_1_2) (v := ?va_1_2) ?op_1_2 (by kernel_rfl) (by kernel_rfl) (by kernel_rfl) (fun _ _ _ h => h) ?yi_1_2 hHeld ?re_1_2
  case op_1_2 => (simp only [List.getElem?_toArray, List.getElem?_cons_succ, List.getElem?_cons_zero]; rfl)
  case yi_1_2 =>
    refine Or.inl ⟨by rfl, ?_⟩
    intro w hSw
    try dsimp only at hSw
    go_simp
    all_goals with_reducible rfl
  try simp only [Act.put, List.setIfInBounds_toArray, List.set_cons_zero, List.set_cons_succ]
  refine wpAnyH_take (i := 3) (oi := ?oq_1_3) (v := ?va_1_3) ?op_1_3 (by kernel_rfl) (by kernel_rfl) (by kernel_rfl) (fun _ _ _ h => h) ?yi_1_3 hHeld ?re_1_3
  case op_1_3 => (simp only [List.getElem?_toArray, List.getElem?_cons_succ, List.getElem?_cons_zero]; rfl)
  case yi_1_3 =>
    refine Or.inl ⟨by rfl, ?_⟩
    intro w hSw
    try dsimp only at hSw
    go_simp
    all_goals with_reducible rfl
  try simp only [Act.put, List.setIfInBounds_toArray, List.set_cons_zero, List.set_cons_succ]
  refine wpAnyH_take (i := 4) (oi := ?oq_1_4) (v := ?va_1_4) ?op_1_4 (by kernel_rfl) (by kernel_rfl) (by kernel_rfl) (fun _ _ _ h => h) ?yi_1_4 hHeld ?re_1_4
  case op_1_4 => (simp only [List.getElem?_toArray, List.getElem?_cons_succ, List.getElem?_cons_zero]; rfl)
  case yi_1_4 =>
    refine Or.inl ⟨by rfl, ?_⟩
    intro w hSw
    try dsimp only at hSw
    go_simp
    all_goals with_reducible rfl
  try simp only [Act.put, List.setIfInBounds_toArray, List.set_cons_zero, List.set_cons_succ]
  refine wpAnyH_ready (rs := [5]) (by kernel_rfl) (by simp) (AllReadyH.cons (o := ?oq_1_5) ?op_1_5 (fun K hK => ?re_1_5) AllReadyH.nil)
  case op_1_5 => (simp only [List.getElem?_toArray, List.getElem?_cons_succ, List.getElem?_cons_zero]; rfl)
  go_simp
  refine hK.out _ _ (by exact (hD1.alloc _).drew.cell rfl) (fun hHeld => ?_)
  clear hK K
  try simp only [Act.put, List.setIfInBounds_toArray, List.set_cons_zero, List.set_cons_succ]
  refine wpAnyH_take (i := 6) (oi := ?oq_1_6) (v := ?va_1_6) ?op_1_6 (by kernel_rfl) (by kernel_rfl) (by kernel_rfl) (fun _ _ _ h => h) ?yi_1_6 hHeld ?re_1_6
  case op_1_6 => (simp only [List.getElem?_toArray, List.getElem?_cons_succ, List.getElem?_cons_zero]; rfl)
  case yi_1_6 =>
    refine Or.inl ⟨by rfl, ?_⟩
    intro w hSw
    try dsimp only at hSw
    go_simp
    all_goals with_reducible rfl
  try simp only [Act.put, List.setIfInBounds_toArray, List.set_cons_zero, List.set_cons_succ]
  refine wpAnyH_take (i := 7) (oi := ?oq_1_7) (v := ?va_1_7) ?op_1_7 (by kernel_rfl) (by kernel_rfl) (by kernel_rfl) (fun _ _ _ h => h) ?yi_1_7 hHeld ?re_1_7
  case op_1_7 => (simp only [List.getElem?_toArray, List.getElem?_cons_succ, List.getElem?_cons_zero]; rfl)
  case yi_1_7 =>
    refine Or.inl ⟨by rfl, ?_⟩
    intro w hSw
    try dsimp only at hSw
    go_simp
    all_goals with_reducible rfl
  try simp only [Act.put, List.setIfInBounds_toArray, List.set_cons_zero, List.set_cons_succ]
  refine wpAnyH_ready (rs := [8]) (by kernel_rfl) (by simp) (AllReadyH.cons (o := ?oq_1_8) ?op_1_8 (fun K hK => ?re_1_8) AllReadyH.nil)
  case op_1_8 => (simp only [List.getElem?_toArray, List.getElem?_cons_succ, List.getElem?_cons_zero]; rfl)
  have m26 := ((hM1.alloc (.cells (zeros (n * 6)).toArray 99)).drew).cell h26
  have hf := ((hM1.alloc (.cells (zeros (n * 6)).toArray 99)).drew).free 26
  go_simp
  refine hK.out _ _ (by exact hD3.cell rfl) (fun hHeld => ?_)
  clear hK K
  try simp only [Act.put, List.setIfInBounds_toArray, List.set_cons_zero, List.set_cons_succ]
  refine wpAnyH_done (by kernel_rfl) ?_ _
  refine NoPanic.normal ?_
  have hXd : w1.heap.size ≠ d := by omega
  have hXm : w1.heap.size ≠ m := by omega
  have hXr : w1.heap.size ≠ r := by omega
  clear hD1 hM1 hR1 hk1 c0 hmk G hHeld
  go_upto_region 6 with (fail)
  change Code.wp _ _ _ _ ((w1.alloc (.cells (zeros (n * 6)).toArray 99)).drew.setCell ⟨m, 26, none⟩ (.slice (some ⟨w1.heap.size, 0, none⟩) n n))
  generalize ((w1.alloc (.cells (zeros (n * 6)).toArray 99)).drew.setCell ⟨m, 26, none⟩ (.slice (some ⟨w1.heap.size, 0, none⟩) n n)) = W at *
  generalize w1.heap.size = X at *
  have m26 : W.cell? ⟨m, 26, none⟩ = some (.slice (some ⟨X, 0, none⟩) n n) := hM3.cell (by simp [(List.getElem?_eq_some_iff.1 h26).1])
  have c0 : W.cell? ⟨d, 0, none⟩ = some (.pointer (some ⟨m, 0, none⟩)) := hD3.cell rfl
  go_wp2_with fail
  clear m26 c0
  go_loopw [53] (fun i wr => ∃ k : Nat, k ≤ n ∧ i = .int .i64 k ∧ BlkAt wr d 118 [.pointer (some ⟨m, 0, none⟩), .pointer none, .pointer (some ⟨r, 0, none⟩)] ∧ BlkAt wr m 40 (cs.set 26 (.slice (some ⟨X, 0, none⟩) n n)) ∧
    BlkAt wr X 99 (firesCells (rdFires k l1 e1).1 ++ zeros ((n - k) * 6)) ∧ RdAt wr r (rdFires k l1 e1).2.1 (rdFires k l1 e1).2.2 ∧ RKeep w wr r m ∧ X + 1 ≤ wr.heap.size) (fun i _ => n - (intOf i).toNat)
  case atStart => exact ⟨0, Nat.zero_le _, rfl, hD3, hM3, hX3, hR3, hk3, hXs⟩
  case round =>
    obtain ⟨k, hk, rfl, hD, hM, hXB, hR, hkp, hXs2⟩ := hrel
    clear hD3 hM3 hX3 hR3 hk3
    obtain ⟨hfl, hll⟩ := rdFires_len k l1 e1
    by_cases hlt : k < n
    · have hz : zeros ((n - k) * 6) = zeros ((n - (k + 1)) * 6 + 6) := by congr 1; omega
      rw [hz] at hXB
      have hfc := firesCells_len (rdFires k l1 e1).1
      rw [hfl] at hfc
      have HS := Lib.hid (rdFires_snoc k l1 e1)
      obtain ⟨A, q, y, hA⟩ : ∃ A q y, rdFires k l1 e1 = (A, q, y) := ⟨_, _, _, rfl⟩
      rw [hA] at hXB hR hfc hll HS
      simp only at hXB hR hfc hll HS
      obtain ⟨v, q1, y1, hv⟩ : ∃ v q1 y1, rdIs 6 q y = (v, q1, y1) := ⟨_, _, _, rfl⟩
      have hvl := rdIs_len 6 q y
      rw [hv] at hvl HS
      simp only at hvl HS
      obtain ⟨v0, v1, v2, v3, v4, v5, rfl⟩ := list6 hvl
      have HV := Lib.hid hv
      have m26 : wr.cell? ⟨m, 26, none⟩ = some (.slice (some ⟨X, 0, none⟩) n n) := hM.cell (by simp [(List.getElem?_eq_some_iff.1 h26).1])
      have c0 : wr.cell? ⟨d, 0, none⟩ = some (.pointer (some ⟨m, 0, none⟩)) := hD.cell rfl
      have hfx : (firesCells A ++ zeros ((n - (k + 1)) * 6 + 6)).length = k * 6 + ((n - (k + 1)) * 6 + 6) := by rw [List.length_append, hfc]; simp [zeros]
      have hslot : ∀ j, j < 6 → ∃ x, (firesCells A ++ zeros ((n - (k + 1)) * 6 + 6))[k * 6 + j]? = some (.int .i64 x) := by
        intro j hj
        refine ⟨0, ?_⟩
        rw [List.getElem?_append_right (by omega), hfc, show k * 6 + j - k * 6 = j by omega, zeros, List.getElem?_replicate, if_pos (by omega)]
      have HF := Lib.hid hfc
      have HSL := Lib.hid hslot
      clear hv hA hvl hz hfl hfx hfc hslot
      go_upto_region 10 with (fail)
      clear m26 c0
      have hP : SlotsAt (wr.alloc (.cells #[.pointer (some ⟨X, k * 6, none⟩), .pointer (some ⟨X, k * 6 + 1, none⟩), .pointer (some ⟨X, k * 6 + 2, none⟩), .pointer (some ⟨X, k * 6 + 3, none⟩), .pointer (some ⟨X, k * 6 + 4, none⟩), .pointer (some ⟨X, k * 6 + 5, none⟩)] 123)) wr.heap.size [(X, k * 6), (X, k * 6 + 1), (X, k * 6 + 2), (X, k * 6 + 3), (X, k * 6 + 4), (X, k * 6 + 5)] := by
        refine ⟨BlkAt.new wr 123 [.pointer (some ⟨X, k * 6, none⟩), .pointer (some ⟨X, k * 6 + 1, none⟩), .pointer (some ⟨X, k * 6 + 2, none⟩), .pointer (some ⟨X, k * 6 + 3, none⟩), .pointer (some ⟨X, k * 6 + 4, none⟩), .pointer (some ⟨X, k * 6 + 5, none⟩)], fun i A' g1 => ?_⟩
        match i, g1 with
        | 0, g1 => simp at g1; obtain rfl := g1; obtain ⟨x, hx⟩ := HSL.out 0 (by omega); exact ⟨_, _, hXB.alloc (.cells #[.pointer (some ⟨X, k * 6, none⟩), .pointer (some ⟨X, k * 6 + 1, none⟩), .pointer (some ⟨X, k * 6 + 2, none⟩), .pointer (some ⟨X, k * 6 + 3, none⟩), .pointer (some ⟨X, k * 6 + 4, none⟩), .pointer (some ⟨X, k * 6 + 5, none⟩)] 123), by decide, by decide, by decide, x, by rw [List.getElem?_toArray]; exact hx⟩
        | 1, g1 => simp at g1; obtain rfl := g1; obtain ⟨x, hx⟩ := HSL.out 1 (by omega); exact ⟨_, _, hXB.alloc (.cells #[.pointer (some ⟨X, k * 6, none⟩), .pointer (some ⟨X, k * 6 + 1, none⟩), .pointer (some ⟨X, k * 6 + 2, none⟩), .pointer (some ⟨X, k * 6 + 3, none⟩), .pointer (some ⟨X, k * 6 + 4, none⟩), .pointer (some ⟨X, k * 6 + 5, none⟩)] 123), by decide, by decide, by decide, x, by rw [List.getElem?_toArray]; exact hx⟩
        | 2, g1 => simp at g1; obtain rfl := g1; obtain ⟨x, hx⟩ := HSL.out 2 (by omega); exact ⟨_, _, hXB.alloc (.cells #[.pointer (some ⟨X, k * 6, none⟩), .pointer (some ⟨X, k * 6 + 1, none⟩), .pointer (some ⟨X, k * 6 + 2, none⟩), .pointer (some ⟨X, k * 6 + 3, none⟩), .pointer (some ⟨X, k * 6 + 4, none⟩), .pointer (some ⟨X, k * 6 + 5, none⟩)] 123), by decide, by decide, by decide, x, by rw [List.getElem?_toArray]; exact hx⟩
        | 3, g1 => simp at g1; obtain rfl := g1; obtain ⟨x, hx⟩ := HSL.out 3 (by omega); exact ⟨_, _, hXB.alloc (.cells #[.pointer (some ⟨X, k * 6, none⟩), .pointer (some ⟨X, k * 6 + 1, none⟩), .pointer (some ⟨X, k * 6 + 2, none⟩), .pointer (some ⟨X, k * 6 + 3, none⟩), .pointer (some ⟨X, k * 6 + 4, none⟩), .pointer (some ⟨X, k * 6 + 5, none⟩)] 123), by decide, by decide, by decide, x, by rw [List.getElem?_toArray]; exact hx⟩
        | 4, g1 => simp at g1; obtain rfl := g1; obtain ⟨x, hx⟩ := HSL.out 4 (by omega); exact ⟨_, _, hXB.alloc (.cells #[.pointer (some ⟨X, k * 6, none⟩), .pointer (some ⟨X, k * 6 + 1, none⟩), .pointer (some ⟨X, k * 6 + 2, none⟩), .pointer (some ⟨X, k * 6 + 3, none⟩), .pointer (some ⟨X, k * 6 + 4, none⟩), .pointer (some ⟨X, k * 6 + 5, none⟩)] 123), by decide, by decide, by decide, x, by rw [List.getElem?_toArray]; exact hx⟩
        | 5, g1 => simp at g1; obtain rfl := g1; obtain ⟨x, hx⟩ := HSL.out 5 (by omega); exact ⟨_, _, hXB.alloc (.cells #[.pointer (some ⟨X, k * 6, none⟩), .pointer (some ⟨X, k * 6 + 1, none⟩), .pointer (some ⟨X, k * 6 + 2, none⟩), .pointer (some ⟨X, k * 6 + 3, none⟩), .pointer (some ⟨X, k * 6 + 4, none⟩), .pointer (some ⟨X, k * 6 + 5, none⟩)] 123), by decide, by decide, by decide, x, by rw [List.getElem?_toArray]; exact hx⟩
      have bb0 : Below wr.heap.size wr (wr.alloc (.cells #[.pointer (some ⟨X, k * 6, none⟩), .pointer (some ⟨X, k * 6 + 1, none⟩), .pointer (some ⟨X, k * 6 + 2, none⟩), .pointer (some ⟨X, k * 6 + 3, none⟩), .pointer (some ⟨X, k * 6 + 4, none⟩), .pointer (some ⟨X, k * 6 + 5, none⟩)] 123)) := (Below.refl _ _).alloc (Nat.le_refl _) _
      have bb : Below wr.heap.size wr (wr.alloc (.cells #[.pointer (some ⟨X, k * 6, none⟩), .pointer (some ⟨X, k * 6 + 1, none⟩), .pointer (some ⟨X, k * 6 + 2, none⟩), .pointer (some ⟨X, k * 6 + 3, none⟩), .pointer (some ⟨X, k * 6 + 4, none⟩), .pointer (some ⟨X, k * 6 + 5, none⟩)] 123)).drew := ⟨bb0.os, bb0.tape, bb0.output, bb0.size, bb0.block⟩
      have hP : SlotsAt (wr.alloc (.cells #[.pointer (some ⟨X, k * 6, none⟩), .pointer (some ⟨X, k * 6 + 1, none⟩), .pointer (some ⟨X, k * 6 + 2, none⟩), .pointer (some ⟨X, k * 6 + 3, none⟩), .pointer (some ⟨X, k * 6 + 4, none⟩), .pointer (some ⟨X, k * 6 + 5, none⟩)] 123)).drew wr.heap.size [(X, k * 6), (X, k * 6 + 1), (X, k * 6 + 2), (X, k * 6 + 3), (X, k * 6 + 4), (X, k * 6 + 5)] := ⟨hP.row, hP.slots⟩
      go_region_held3 (fun w' => True)
        (first | trivial | go_keep)
        ((go_at_call 56; refine (ints_rd (As := [(X, k * 6), (X, k * 6 + 1), (X, k * 6 + 2), (X, k * 6 + 3), (X, k * 6 + 4), (X, k * 6 + 5)]) HV rfl (by exact hD.alloc (.cells #[.pointer (some ⟨X, k * 6, none⟩), .pointer (some ⟨X, k * 6 + 1, none⟩), .pointer (some ⟨X, k * 6 + 2, none⟩), .pointer (some ⟨X, k * 6 + 3, none⟩), .pointer (some ⟨X, k * 6 + 4, none⟩), .pointer (some ⟨X, k * 6 + 5, none⟩)] 123)) (by exact hP) (by exact RdAt.below hR bb) (by omega) (by decide)).mono ?_; rintro en w2 ⟨rfl, hR2, hT⟩))
      have hT3 : ReadTo (wr.alloc (.cells #[.pointer (some ⟨X, k * 6, none⟩), .pointer (some ⟨X, k * 6 + 1, none⟩), .pointer (some ⟨X, k * 6 + 2, none⟩), .pointer (some ⟨X, k * 6 + 3, none⟩), .pointer (some ⟨X, k * 6 + 4, none⟩), .pointer (some ⟨X, k * 6 + 5, none⟩)] 123)) w2 r (List.zip [(X, k * 6), (X, k * 6 + 1), (X, k * 6 + 2), (X, k * 6 + 3), (X, k * 6 + 4), (X, k * 6 + 5)] [v0, v1, v2, v3, v4, v5]) := ⟨hT.os, hT.tape, hT.output, hT.size, hT.cells, hT.other⟩
      have hD2 : BlkAt w2 d 118 _ := hT3.same (hD.alloc (.cells #[.pointer (some ⟨X, k * 6, none⟩), .pointer (some ⟨X, k * 6 + 1, none⟩), .pointer (some ⟨X, k * 6 + 2, none⟩), .pointer (some ⟨X, k * 6 + 3, none⟩), .pointer (some ⟨X, k * 6 + 4, none⟩), .pointer (some ⟨X, k * 6 + 5, none⟩)] 123)) hdr (by simp; omega)
      have hM2 : BlkAt w2 m 40 _ := hT3.same (hM.alloc (.cells #[.pointer (some ⟨X, k * 6, none⟩), .pointer (some ⟨X, k * 6 + 1, none⟩), .pointer (some ⟨X, k * 6 + 2, none⟩), .pointer (some ⟨X, k * 6 + 3, none⟩), .pointer (some ⟨X, k * 6 + 4, none⟩), .pointer (some ⟨X, k * 6 + 5, none⟩)] 123)) hmr (by simp; omega)
      have hX2 : BlkAt w2 X 99 (firesCells (A ++ [fireOf [v0, v1, v2, v3, v4, v5]]) ++ zeros ((n - (k + 1)) * 6)) := by
        have h2 := hT3.cells X _ _ _ hXr (hXB.alloc (.cells #[.pointer (some ⟨X, k * 6, none⟩), .pointer (some ⟨X, k * 6 + 1, none⟩), .pointer (some ⟨X, k * 6 + 2, none⟩), .pointer (some ⟨X, k * 6 + 3, none⟩), .pointer (some ⟨X, k * 6 + 4, none⟩), .pointer (some ⟨X, k * 6 + 5, none⟩)] 123))
        rw [upd_six X k _ HF.out] at h2
        rw [firesCells_snoc]
        exact h2
      have hk2 : RKeep w w2 r m := ⟨hT3.os.trans hkp.os, hT3.tape.trans hkp.tape, hT3.output.trans hkp.output, by have h1 := hT3.size; have h2 := hkp.size; simp at h1; omega, fun j hj hjr hjm => by
        have h1 := hkp.block j hj hjr hjm
        have hjW : j < wr.heap.size := Nat.lt_of_lt_of_le hj hkp.size
        rw [hT3.other j (by simp; omega) hjr (by simp; omega), heap_alloc_old _ _ hjW, h1]⟩
      have hXs4 : X + 1 ≤ w2.heap.size := by have h1 := hT3.size; simp at h1; omega
      have HA := Lib.hid hD2
      have HB := Lib.hid hM2
      have HC := Lib.hid hX2
      have HE := Lib.hid hR2
      have HG := Lib.hid hk2
      clear hD2 hM2 hX2 hR2 hk2 hT hT3 hP bb bb0 hD hM hXB hR hkp
      go_wp2_with fail
      go_roundw
      case rel => exact ⟨k + 1, by omega, by go_num, HA.out, HB.out, by rw [HS.out]; exact HC.out, by rw [HS.out]; exact HE.out, HG.out, hXs4⟩
      case measure => simp [intOf]; omega
    · obtain rfl : k = n := by omega
      rw [HX.out] at hXB hR hfl
      simp only at hXB hR hfl
      have HV := Lib.hid (show FiresFrom w.heap.size wr (.slice (some ⟨X, 0, none⟩) k k) L from by
        subst hfl
        exact ⟨⟨_, _, rfl, by unfold maxLen; omega, fun hp => ⟨X, 0, rfl, hXB.lt, fun i f hi j x hj => hXB.cell (by
          have h1 := (List.getElem?_eq_some_iff.1 hi).1
          have h2 := (List.getElem?_eq_some_iff.1 hj).1
          have h3 : f.nums.length = 6 := rfl
          rw [Nat.zero_add, List.getElem?_append_left (by rw [firesCells_len]; omega)]
          exact firesCells_at L i f j x hi hj)⟩⟩, fun j hj => by simp [Value.ownBlock] at hj; omega⟩)
      have HB := Lib.hid hM
      have HE := Lib.hid hR
      have HG := Lib.hid hkp
      clear hD hM hXB hR hkp
      go_wp2_with fail
      go_end0
      exact ⟨rfl, HE.out, ⟨_, HV.out, HB.out⟩, HG.out⟩
end Go.Proofs.YtnaabaahfjklhaaGreat
