/- The desk's row: which functions go over a message's fields. -/
import Derived.Test.YtnaabaahfjklhaaGreatWireTakeF
namespace Go.Proofs.YtnaabaahfjklhaaGreat
open Go.RowKit Go.ChangeShapes Go.WideShapes Go.Joins Go.Deep Fld
set_option linter.unusedVariables false

def fnOf : Fld → Nat
  | fF => 75
  | fE => 76
  | fG => 77
  | fS => 78
  | fC => 79
  | fU => 80
  | fL => 81
  | fO => 82
  | fQ => 83
  | fR => 84
  | fI => 85
  | fT => 86
  | fX => 87
/-- A field's function, bound to the desk. -/
def fnV (d : Nat) (F : Fld) : Value := .func (.func (fnOf F)) #[.pointer (some ⟨d, 0, none⟩)] #[]
def RowIs (w : World) (v : Value) (d : Nat) (R : List Fld) : Prop := (R = [] ∧ v = .slice none 0 0) ∨ (R ≠ [] ∧ ∃ a, v = .slice (some ⟨a, 0, none⟩) R.length R.length ∧ BlkAt w a 1 (R.map (fnV d)))
theorem RowIs.below {w w' : World} {v : Value} {d : Nat} {R : List Fld} (h : RowIs w v d R) (hb : Below w.heap.size w w') : RowIs w' v d R := by
  rcases h with h | ⟨h1, a, h2, h3⟩
  · exact .inl h
  · exact .inr ⟨h1, a, h2, h3.below hb⟩
set_option maxRecDepth 100000 in
set_option maxHeartbeats 1000000 in

theorem drow1 {w : World} {d m : Nat} {u1 u2 : Value} {cs : List Value} (hD : BlkAt w d 118 [.pointer (some ⟨m, 0, none⟩), u1, u2]) (hM : BlkAt w m 40 cs) (h0 : cs[0]? = some (.int .i64 1)) :
    Calls Tryz.prog 57 #[.pointer (some ⟨d, 0, none⟩)] w fun en w' => ∃ v, en = .returned v ∧ RowIs w' v d (fieldsOf 1) ∧ Below w.heap.size w w' := by
  have c0 : w.cell? ⟨d, 0, none⟩ = some (.pointer (some ⟨m, 0, none⟩)) := hD.cell rfl
  have m0 : w.cell? ⟨m, 0, none⟩ = some (.int .i64 1) := hM.cell h0
  have hX := BlkAt.new w 1 [fnV d fF, fnV d fE, fnV d fG, fnV d fS]
  have hb := (Below.refl w.heap.size w).alloc (Nat.le_refl _) (.cells #[fnV d fF, fnV d fE, fnV d fG, fnV d fS] 1)
  clear hD hM h0
  go_enter Tryz.func57, Tryz.ntmps57
  go_wp2_with fail
  go_ret
  exact ⟨_, rfl, .inr ⟨by decide, _, rfl, hX⟩, hb⟩
set_option maxRecDepth 100000 in
set_option maxHeartbeats 1000000 in

theorem drow2 {w : World} {d m : Nat} {u1 u2 : Value} {cs : List Value} (hD : BlkAt w d 118 [.pointer (some ⟨m, 0, none⟩), u1, u2]) (hM : BlkAt w m 40 cs) (h0 : cs[0]? = some (.int .i64 2)) :
    Calls Tryz.prog 57 #[.pointer (some ⟨d, 0, none⟩)] w fun en w' => ∃ v, en = .returned v ∧ RowIs w' v d (fieldsOf 2) ∧ Below w.heap.size w w' := by
  have c0 : w.cell? ⟨d, 0, none⟩ = some (.pointer (some ⟨m, 0, none⟩)) := hD.cell rfl
  have m0 : w.cell? ⟨m, 0, none⟩ = some (.int .i64 2) := hM.cell h0
  have hX := BlkAt.new w 1 [fnV d fC, fnV d fU]
  have hb := (Below.refl w.heap.size w).alloc (Nat.le_refl _) (.cells #[fnV d fC, fnV d fU] 1)
  clear hD hM h0
  go_enter Tryz.func57, Tryz.ntmps57
  go_wp2_with fail
  go_ret
  exact ⟨_, rfl, .inr ⟨by decide, _, rfl, hX⟩, hb⟩
set_option maxRecDepth 100000 in
set_option maxHeartbeats 1000000 in

theorem drow3 {w : World} {d m : Nat} {u1 u2 : Value} {cs : List Value} (hD : BlkAt w d 118 [.pointer (some ⟨m, 0, none⟩), u1, u2]) (hM : BlkAt w m 40 cs) (h0 : cs[0]? = some (.int .i64 3)) :
    Calls Tryz.prog 57 #[.pointer (some ⟨d, 0, none⟩)] w fun en w' => ∃ v, en = .returned v ∧ RowIs w' v d (fieldsOf 3) ∧ Below w.heap.size w w' := by
  have c0 : w.cell? ⟨d, 0, none⟩ = some (.pointer (some ⟨m, 0, none⟩)) := hD.cell rfl
  have m0 : w.cell? ⟨m, 0, none⟩ = some (.int .i64 3) := hM.cell h0
  have hX := BlkAt.new w 1 [fnV d fF, fnV d fE, fnV d fS, fnV d fL]
  have hb := (Below.refl w.heap.size w).alloc (Nat.le_refl _) (.cells #[fnV d fF, fnV d fE, fnV d fS, fnV d fL] 1)
  clear hD hM h0
  go_enter Tryz.func57, Tryz.ntmps57
  go_wp2_with fail
  go_ret
  exact ⟨_, rfl, .inr ⟨by decide, _, rfl, hX⟩, hb⟩
set_option maxRecDepth 100000 in
set_option maxHeartbeats 1000000 in

theorem drow4 {w : World} {d m : Nat} {u1 u2 : Value} {cs : List Value} (hD : BlkAt w d 118 [.pointer (some ⟨m, 0, none⟩), u1, u2]) (hM : BlkAt w m 40 cs) (h0 : cs[0]? = some (.int .i64 4)) :
    Calls Tryz.prog 57 #[.pointer (some ⟨d, 0, none⟩)] w fun en w' => ∃ v, en = .returned v ∧ RowIs w' v d (fieldsOf 4) ∧ Below w.heap.size w w' := by
  have c0 : w.cell? ⟨d, 0, none⟩ = some (.pointer (some ⟨m, 0, none⟩)) := hD.cell rfl
  have m0 : w.cell? ⟨m, 0, none⟩ = some (.int .i64 4) := hM.cell h0
  have hX := BlkAt.new w 1 [fnV d fF, fnV d fE, fnV d fS, fnV d fL]
  have hb := (Below.refl w.heap.size w).alloc (Nat.le_refl _) (.cells #[fnV d fF, fnV d fE, fnV d fS, fnV d fL] 1)
  clear hD hM h0
  go_enter Tryz.func57, Tryz.ntmps57
  go_wp2_with fail
  go_ret
  exact ⟨_, rfl, .inr ⟨by decide, _, rfl, hX⟩, hb⟩
set_option maxRecDepth 100000 in
set_option maxHeartbeats 1000000 in

theorem drow5 {w : World} {d m : Nat} {u1 u2 : Value} {cs : List Value} (hD : BlkAt w d 118 [.pointer (some ⟨m, 0, none⟩), u1, u2]) (hM : BlkAt w m 40 cs) (h0 : cs[0]? = some (.int .i64 5)) :
    Calls Tryz.prog 57 #[.pointer (some ⟨d, 0, none⟩)] w fun en w' => ∃ v, en = .returned v ∧ RowIs w' v d (fieldsOf 5) ∧ Below w.heap.size w w' := by
  have c0 : w.cell? ⟨d, 0, none⟩ = some (.pointer (some ⟨m, 0, none⟩)) := hD.cell rfl
  have m0 : w.cell? ⟨m, 0, none⟩ = some (.int .i64 5) := hM.cell h0
  have hX := BlkAt.new w 1 [fnV d fF, fnV d fE, fnV d fS, fnV d fL, fnV d fO]
  have hb := (Below.refl w.heap.size w).alloc (Nat.le_refl _) (.cells #[fnV d fF, fnV d fE, fnV d fS, fnV d fL, fnV d fO] 1)
  clear hD hM h0
  go_enter Tryz.func57, Tryz.ntmps57
  go_wp2_with fail
  go_ret
  exact ⟨_, rfl, .inr ⟨by decide, _, rfl, hX⟩, hb⟩
set_option maxRecDepth 100000 in
set_option maxHeartbeats 1000000 in

theorem drow6 {w : World} {d m : Nat} {u1 u2 : Value} {cs : List Value} (hD : BlkAt w d 118 [.pointer (some ⟨m, 0, none⟩), u1, u2]) (hM : BlkAt w m 40 cs) (h0 : cs[0]? = some (.int .i64 6)) :
    Calls Tryz.prog 57 #[.pointer (some ⟨d, 0, none⟩)] w fun en w' => ∃ v, en = .returned v ∧ RowIs w' v d (fieldsOf 6) ∧ Below w.heap.size w w' := by
  have c0 : w.cell? ⟨d, 0, none⟩ = some (.pointer (some ⟨m, 0, none⟩)) := hD.cell rfl
  have m0 : w.cell? ⟨m, 0, none⟩ = some (.int .i64 6) := hM.cell h0
  have hX := BlkAt.new w 1 [fnV d fF, fnV d fE, fnV d fS, fnV d fL]
  have hb := (Below.refl w.heap.size w).alloc (Nat.le_refl _) (.cells #[fnV d fF, fnV d fE, fnV d fS, fnV d fL] 1)
  clear hD hM h0
  go_enter Tryz.func57, Tryz.ntmps57
  go_wp2_with fail
  go_ret
  exact ⟨_, rfl, .inr ⟨by decide, _, rfl, hX⟩, hb⟩
set_option maxRecDepth 100000 in
set_option maxHeartbeats 1000000 in

theorem drow7 {w : World} {d m : Nat} {u1 u2 : Value} {cs : List Value} (hD : BlkAt w d 118 [.pointer (some ⟨m, 0, none⟩), u1, u2]) (hM : BlkAt w m 40 cs) (h0 : cs[0]? = some (.int .i64 7)) :
    Calls Tryz.prog 57 #[.pointer (some ⟨d, 0, none⟩)] w fun en w' => ∃ v, en = .returned v ∧ RowIs w' v d (fieldsOf 7) ∧ Below w.heap.size w w' := by
  have c0 : w.cell? ⟨d, 0, none⟩ = some (.pointer (some ⟨m, 0, none⟩)) := hD.cell rfl
  have m0 : w.cell? ⟨m, 0, none⟩ = some (.int .i64 7) := hM.cell h0
  have hX := BlkAt.new w 1 [fnV d fF, fnV d fO]
  have hb := (Below.refl w.heap.size w).alloc (Nat.le_refl _) (.cells #[fnV d fF, fnV d fO] 1)
  clear hD hM h0
  go_enter Tryz.func57, Tryz.ntmps57
  go_wp2_with fail
  go_ret
  exact ⟨_, rfl, .inr ⟨by decide, _, rfl, hX⟩, hb⟩
set_option maxRecDepth 100000 in
set_option maxHeartbeats 1000000 in

theorem drow8 {w : World} {d m : Nat} {u1 u2 : Value} {cs : List Value} (hD : BlkAt w d 118 [.pointer (some ⟨m, 0, none⟩), u1, u2]) (hM : BlkAt w m 40 cs) (h0 : cs[0]? = some (.int .i64 8)) :
    Calls Tryz.prog 57 #[.pointer (some ⟨d, 0, none⟩)] w fun en w' => ∃ v, en = .returned v ∧ RowIs w' v d (fieldsOf 8) ∧ Below w.heap.size w w' := by
  have c0 : w.cell? ⟨d, 0, none⟩ = some (.pointer (some ⟨m, 0, none⟩)) := hD.cell rfl
  have m0 : w.cell? ⟨m, 0, none⟩ = some (.int .i64 8) := hM.cell h0
  have hX := BlkAt.new w 1 [fnV d fQ, fnV d fR, fnV d fS]
  have hb := (Below.refl w.heap.size w).alloc (Nat.le_refl _) (.cells #[fnV d fQ, fnV d fR, fnV d fS] 1)
  clear hD hM h0
  go_enter Tryz.func57, Tryz.ntmps57
  go_wp2_with fail
  go_ret
  exact ⟨_, rfl, .inr ⟨by decide, _, rfl, hX⟩, hb⟩
set_option maxRecDepth 100000 in
set_option maxHeartbeats 1000000 in

theorem drow9 {w : World} {d m : Nat} {u1 u2 : Value} {cs : List Value} (hD : BlkAt w d 118 [.pointer (some ⟨m, 0, none⟩), u1, u2]) (hM : BlkAt w m 40 cs) (h0 : cs[0]? = some (.int .i64 9)) :
    Calls Tryz.prog 57 #[.pointer (some ⟨d, 0, none⟩)] w fun en w' => ∃ v, en = .returned v ∧ RowIs w' v d (fieldsOf 9) ∧ Below w.heap.size w w' := by
  have c0 : w.cell? ⟨d, 0, none⟩ = some (.pointer (some ⟨m, 0, none⟩)) := hD.cell rfl
  have m0 : w.cell? ⟨m, 0, none⟩ = some (.int .i64 9) := hM.cell h0
  have hX := BlkAt.new w 1 [fnV d fF, fnV d fQ, fnV d fI]
  have hb := (Below.refl w.heap.size w).alloc (Nat.le_refl _) (.cells #[fnV d fF, fnV d fQ, fnV d fI] 1)
  clear hD hM h0
  go_enter Tryz.func57, Tryz.ntmps57
  go_wp2_with fail
  go_ret
  exact ⟨_, rfl, .inr ⟨by decide, _, rfl, hX⟩, hb⟩
set_option maxRecDepth 100000 in
set_option maxHeartbeats 1000000 in

theorem drow10 {w : World} {d m : Nat} {u1 u2 : Value} {cs : List Value} (hD : BlkAt w d 118 [.pointer (some ⟨m, 0, none⟩), u1, u2]) (hM : BlkAt w m 40 cs) (h0 : cs[0]? = some (.int .i64 10)) :
    Calls Tryz.prog 57 #[.pointer (some ⟨d, 0, none⟩)] w fun en w' => ∃ v, en = .returned v ∧ RowIs w' v d (fieldsOf 10) ∧ Below w.heap.size w w' := by
  have c0 : w.cell? ⟨d, 0, none⟩ = some (.pointer (some ⟨m, 0, none⟩)) := hD.cell rfl
  have m0 : w.cell? ⟨m, 0, none⟩ = some (.int .i64 10) := hM.cell h0
  have hX := BlkAt.new w 1 [fnV d fQ, fnV d fR, fnV d fS]
  have hb := (Below.refl w.heap.size w).alloc (Nat.le_refl _) (.cells #[fnV d fQ, fnV d fR, fnV d fS] 1)
  clear hD hM h0
  go_enter Tryz.func57, Tryz.ntmps57
  go_wp2_with fail
  go_ret
  exact ⟨_, rfl, .inr ⟨by decide, _, rfl, hX⟩, hb⟩
set_option maxRecDepth 100000 in
set_option maxHeartbeats 1000000 in

theorem drow11 {w : World} {d m : Nat} {u1 u2 : Value} {cs : List Value} (hD : BlkAt w d 118 [.pointer (some ⟨m, 0, none⟩), u1, u2]) (hM : BlkAt w m 40 cs) (h0 : cs[0]? = some (.int .i64 11)) :
    Calls Tryz.prog 57 #[.pointer (some ⟨d, 0, none⟩)] w fun en w' => ∃ v, en = .returned v ∧ RowIs w' v d (fieldsOf 11) ∧ Below w.heap.size w w' := by
  have c0 : w.cell? ⟨d, 0, none⟩ = some (.pointer (some ⟨m, 0, none⟩)) := hD.cell rfl
  have m0 : w.cell? ⟨m, 0, none⟩ = some (.int .i64 11) := hM.cell h0
  have hX := BlkAt.new w 1 [fnV d fF, fnV d fE, fnV d fL, fnV d fQ, fnV d fT, fnV d fI]
  have hb := (Below.refl w.heap.size w).alloc (Nat.le_refl _) (.cells #[fnV d fF, fnV d fE, fnV d fL, fnV d fQ, fnV d fT, fnV d fI] 1)
  clear hD hM h0
  go_enter Tryz.func57, Tryz.ntmps57
  go_wp2_with fail
  go_ret
  exact ⟨_, rfl, .inr ⟨by decide, _, rfl, hX⟩, hb⟩
set_option maxRecDepth 100000 in
set_option maxHeartbeats 1000000 in

theorem drow12 {w : World} {d m : Nat} {u1 u2 : Value} {cs : List Value} (hD : BlkAt w d 118 [.pointer (some ⟨m, 0, none⟩), u1, u2]) (hM : BlkAt w m 40 cs) (h0 : cs[0]? = some (.int .i64 12)) :
    Calls Tryz.prog 57 #[.pointer (some ⟨d, 0, none⟩)] w fun en w' => ∃ v, en = .returned v ∧ RowIs w' v d (fieldsOf 12) ∧ Below w.heap.size w w' := by
  have c0 : w.cell? ⟨d, 0, none⟩ = some (.pointer (some ⟨m, 0, none⟩)) := hD.cell rfl
  have m0 : w.cell? ⟨m, 0, none⟩ = some (.int .i64 12) := hM.cell h0
  have hX := BlkAt.new w 1 [fnV d fF, fnV d fE, fnV d fL, fnV d fQ, fnV d fT, fnV d fI, fnV d fS]
  have hb := (Below.refl w.heap.size w).alloc (Nat.le_refl _) (.cells #[fnV d fF, fnV d fE, fnV d fL, fnV d fQ, fnV d fT, fnV d fI, fnV d fS] 1)
  clear hD hM h0
  go_enter Tryz.func57, Tryz.ntmps57
  go_wp2_with fail
  go_ret
  exact ⟨_, rfl, .inr ⟨by decide, _, rfl, hX⟩, hb⟩
set_option maxRecDepth 100000 in
set_option maxHeartbeats 1000000 in

theorem drow13 {w : World} {d m : Nat} {u1 u2 : Value} {cs : List Value} (hD : BlkAt w d 118 [.pointer (some ⟨m, 0, none⟩), u1, u2]) (hM : BlkAt w m 40 cs) (h0 : cs[0]? = some (.int .i64 13)) :
    Calls Tryz.prog 57 #[.pointer (some ⟨d, 0, none⟩)] w fun en w' => ∃ v, en = .returned v ∧ RowIs w' v d (fieldsOf 13) ∧ Below w.heap.size w w' := by
  have c0 : w.cell? ⟨d, 0, none⟩ = some (.pointer (some ⟨m, 0, none⟩)) := hD.cell rfl
  have m0 : w.cell? ⟨m, 0, none⟩ = some (.int .i64 13) := hM.cell h0
  have hX := BlkAt.new w 1 [fnV d fF, fnV d fS]
  have hb := (Below.refl w.heap.size w).alloc (Nat.le_refl _) (.cells #[fnV d fF, fnV d fS] 1)
  clear hD hM h0
  go_enter Tryz.func57, Tryz.ntmps57
  go_wp2_with fail
  go_ret
  exact ⟨_, rfl, .inr ⟨by decide, _, rfl, hX⟩, hb⟩
set_option maxRecDepth 100000 in
set_option maxHeartbeats 1000000 in

theorem drow14 {w : World} {d m : Nat} {u1 u2 : Value} {cs : List Value} (hD : BlkAt w d 118 [.pointer (some ⟨m, 0, none⟩), u1, u2]) (hM : BlkAt w m 40 cs) (h0 : cs[0]? = some (.int .i64 14)) :
    Calls Tryz.prog 57 #[.pointer (some ⟨d, 0, none⟩)] w fun en w' => ∃ v, en = .returned v ∧ RowIs w' v d (fieldsOf 14) ∧ Below w.heap.size w w' := by
  have c0 : w.cell? ⟨d, 0, none⟩ = some (.pointer (some ⟨m, 0, none⟩)) := hD.cell rfl
  have m0 : w.cell? ⟨m, 0, none⟩ = some (.int .i64 14) := hM.cell h0
  have hX := BlkAt.new w 1 [fnV d fS, fnV d fX]
  have hb := (Below.refl w.heap.size w).alloc (Nat.le_refl _) (.cells #[fnV d fS, fnV d fX] 1)
  clear hD hM h0
  go_enter Tryz.func57, Tryz.ntmps57
  go_wp2_with fail
  go_ret
  exact ⟨_, rfl, .inr ⟨by decide, _, rfl, hX⟩, hb⟩
set_option maxRecDepth 100000 in
set_option maxHeartbeats 1000000 in

theorem drow15 {w : World} {d m : Nat} {u1 u2 : Value} {cs : List Value} (hD : BlkAt w d 118 [.pointer (some ⟨m, 0, none⟩), u1, u2]) (hM : BlkAt w m 40 cs) (h0 : cs[0]? = some (.int .i64 15)) :
    Calls Tryz.prog 57 #[.pointer (some ⟨d, 0, none⟩)] w fun en w' => ∃ v, en = .returned v ∧ RowIs w' v d (fieldsOf 15) ∧ Below w.heap.size w w' := by
  have c0 : w.cell? ⟨d, 0, none⟩ = some (.pointer (some ⟨m, 0, none⟩)) := hD.cell rfl
  have m0 : w.cell? ⟨m, 0, none⟩ = some (.int .i64 15) := hM.cell h0
  have hX := BlkAt.new w 1 [fnV d fF]
  have hb := (Below.refl w.heap.size w).alloc (Nat.le_refl _) (.cells #[fnV d fF] 1)
  clear hD hM h0
  go_enter Tryz.func57, Tryz.ntmps57
  go_wp2_with fail
  go_ret
  exact ⟨_, rfl, .inr ⟨by decide, _, rfl, hX⟩, hb⟩
theorem fieldsOf_none {k : Int} (h : ¬ (1 ≤ k ∧ k ≤ 15)) : fieldsOf k = [] := by
  cases he : fieldsOf k with
  | nil => rfl
  | cons a b => exact absurd (fieldsOf_ne (by rw [he]; simp)) h
set_option maxRecDepth 100000 in
set_option maxHeartbeats 1000000 in

theorem drow_none {w : World} {d m : Nat} {u1 u2 : Value} {cs : List Value} {k : Int} (hD : BlkAt w d 118 [.pointer (some ⟨m, 0, none⟩), u1, u2]) (hM : BlkAt w m 40 cs) (h0 : cs[0]? = some (.int .i64 k)) (hk : ¬ (1 ≤ k ∧ k ≤ 15)) :
    Calls Tryz.prog 57 #[.pointer (some ⟨d, 0, none⟩)] w fun en w' => ∃ v, en = .returned v ∧ RowIs w' v d (fieldsOf k) ∧ Below w.heap.size w w' := by
  have c0 : w.cell? ⟨d, 0, none⟩ = some (.pointer (some ⟨m, 0, none⟩)) := hD.cell rfl
  have m0 : w.cell? ⟨m, 0, none⟩ = some (.int .i64 k) := hM.cell h0
  have HF := Lib.hid (fieldsOf_none hk)
  have n1 : (k == 1) = false := by simp; omega
  have n2 : (k == 2) = false := by simp; omega
  have n3 : (k == 3) = false := by simp; omega
  have n4 : (k == 4) = false := by simp; omega
  have n5 : (k == 5) = false := by simp; omega
  have n6 : (k == 6) = false := by simp; omega
  have n7 : (k == 7) = false := by simp; omega
  have n8 : (k == 8) = false := by simp; omega
  have n9 : (k == 9) = false := by simp; omega
  have n10 : (k == 10) = false := by simp; omega
  have n11 : (k == 11) = false := by simp; omega
  have n12 : (k == 12) = false := by simp; omega
  have n13 : (k == 13) = false := by simp; omega
  have n14 : (k == 14) = false := by simp; omega
  have n15 : (k == 15) = false := by simp; omega
  clear hD hM h0 hk
  go_enter Tryz.func57, Tryz.ntmps57
  go_wp2_with fail
  go_ret
  exact ⟨_, rfl, .inl ⟨HF.out, rfl⟩, Below.refl _ _⟩
theorem drow_any {w : World} {d m : Nat} {u1 u2 : Value} {cs : List Value} {k : Int} (hD : BlkAt w d 118 [.pointer (some ⟨m, 0, none⟩), u1, u2]) (hM : BlkAt w m 40 cs) (h0 : cs[0]? = some (.int .i64 k)) :
    Calls Tryz.prog 57 #[.pointer (some ⟨d, 0, none⟩)] w fun en w' => ∃ v, en = .returned v ∧ RowIs w' v d (fieldsOf k) ∧ Below w.heap.size w w' := by
  by_cases hk : 1 ≤ k ∧ k ≤ 15
  · rcases kinds hk.1 hk.2 with rfl | rfl | rfl | rfl | rfl | rfl | rfl | rfl | rfl | rfl | rfl | rfl | rfl | rfl | rfl
    · exact drow1 hD hM h0
    · exact drow2 hD hM h0
    · exact drow3 hD hM h0
    · exact drow4 hD hM h0
    · exact drow5 hD hM h0
    · exact drow6 hD hM h0
    · exact drow7 hD hM h0
    · exact drow8 hD hM h0
    · exact drow9 hD hM h0
    · exact drow10 hD hM h0
    · exact drow11 hD hM h0
    · exact drow12 hD hM h0
    · exact drow13 hD hM h0
    · exact drow14 hD hM h0
    · exact drow15 hD hM h0
  · exact drow_none hD hM h0 hk
end Go.Proofs.YtnaabaahfjklhaaGreat
