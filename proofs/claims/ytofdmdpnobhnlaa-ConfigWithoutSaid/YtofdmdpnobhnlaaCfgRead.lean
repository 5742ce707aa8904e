/- Read. -/
import Derived.Test.YtofdmdpnobhnlaaCfgQFollows
import Derived.Test.YtofdmdpnobhnlaaCfgTake
namespace Go.Proofs.Ytofdmdpnobhnlaa
open Go.RowKit Go.ChangeShapes Go.WideShapes Go.Joins
set_option linter.unusedVariables false

/-- An error's number: none, or that of a wrong form. -/
def okErr (b : Bool) : Int := if b = true then 0 else 3
theorem readC_of {l l' : List UInt8} {e' : Int} {c : ConfV} (h : takeC l 0 = (c, l', e')) : readC l = if e' = 0 ∧ l' = [] then (c, true) else (confZero, false) := by rw [readC, h]

set_option maxRecDepth 100000 in
set_option maxHeartbeats 2000000 in

theorem cread_at {l : List UInt8} (hl : l.length ≤ 1000000) {c : ConfV} {ok : Bool} (hr : readC l = (c, ok)) (w : World) :
    Calls Try.prog 33 #[.string ⟨l.toArray⟩] w fun en w' => ConfRes w w' en c (.int .i64 (okErr ok)) := by
  obtain ⟨c1, l1, e1, hT⟩ : ∃ c1 l1 e1, takeC l 0 = (c1, l1, e1) := ⟨_, _, _, rfl⟩
  have HR := Lib.hid (readC_of hT)
  have HT := Lib.hid hT
  have HH := Lib.hid hr
  clear hT hr
  go_enter Try.func33, Try.ntmps33
  go_upto_region 1 with (fail)
  have hD : BlkAt (w.alloc (.cells #[.int .i64 0, .slice none 0 0] 24)) w.heap.size 24 [.int .i64 0, .slice none 0 0] := BlkAt.new w 24 [.int .i64 0, .slice none 0 0]
  have hb : Below w.heap.size w (w.alloc (.cells #[.int .i64 0, .slice none 0 0] 24)) := (Below.refl w.heap.size w).alloc (Nat.le_refl _) _
  have hWs : w.heap.size + 1 ≤ (w.alloc (.cells #[.int .i64 0, .slice none 0 0] 24)).heap.size := by simp
  change Code.wp _ _ _ _ (w.alloc (.cells #[.int .i64 0, .slice none 0 0] 24))
  generalize w.alloc (.cells #[.int .i64 0, .slice none 0 0] 24) = W at *
  generalize hDD : w.heap.size = D at hD
  have hDn : w.heap.size ≤ D := by omega
  have hDl := hD.lt
  go_wp2_with fail
  refine (read_any l _).mono ?_
  rintro en w1 ⟨b, rfl, hR, hbW, b1⟩
  have hD := hD.below b1
  have hDb : D ≠ b := by omega
  have hwb : w.heap.size ≤ b := by omega
  have hb := below_step hb b1
  clear b1 hWs hDl
  go_wp2_with fail
  refine (ctake_at (by exact hR) hl HT.out).mono ?_
  rintro en w2 ⟨v, rfl, hv, hR, hg⟩
  obtain ⟨a, cap, rfl, hs⟩ := hv
  have hv : ChainAt w2 (.slice a c1.chain.length cap) c1.chain := ⟨a, cap, rfl, hs⟩
  have hD := hD.grown hg hDb
  have hb := grown_below hb hg hwb
  clear hg hs
  have hbs := hb.size
  go_upto_region 3 with (fail)
  have hX := BlkAt.new w2 24 [.int .i64 c1.epoch, .slice a c1.chain.length cap]
  have hD := hD.alloc (.cells #[.int .i64 c1.epoch, .slice a c1.chain.length cap] 24)
  have hR := hR.alloc (.cells #[.int .i64 c1.epoch, .slice a c1.chain.length cap] 24)
  have hv := hv.alloc (.cells #[.int .i64 c1.epoch, .slice a c1.chain.length cap] 24)
  have hb := hb.alloc hb.size (.cells #[.int .i64 c1.epoch, .slice a c1.chain.length cap] 24)
  have hXs : w2.heap.size + 1 ≤ (w2.alloc (.cells #[.int .i64 c1.epoch, .slice a c1.chain.length cap] 24)).heap.size := by simp
  have hXn : w.heap.size ≤ w2.heap.size := by omega
  change Code.wp _ _ _ _ (w2.alloc (.cells #[.int .i64 c1.epoch, .slice a c1.chain.length cap] 24))
  change BlkAt (w2.alloc (.cells #[.int .i64 c1.epoch, .slice a c1.chain.length cap] 24)) _ _ _ at hX
  generalize w2.alloc (.cells #[.int .i64 c1.epoch, .slice a c1.chain.length cap] 24) = w3 at *
  generalize w2.heap.size = X at *
  clear hbs hXs hXn hDb hwb hbW hDD
  by_cases h0 : e1 = 0
  · subst h0
    go_wp2_with fail
    refine (err_any (by exact hR)).mono ?_
    rintro en w4 ⟨rfl, rfl⟩
    by_cases hq : l1 = []
    · subst hq
      have HE := Lib.hid (show (c, ok) = (c1, true) by rw [← HH.out, HR.out, if_pos (by simp)])
      go_wp2_with fail
      refine (left_any (by exact hR)).mono ?_
      rintro en w4 ⟨rfl, rfl⟩
      have k0 : w3.cell? ⟨X, 0, none⟩ = some (.int .i64 c1.epoch) := hX.cell rfl
      have k1 : w3.cell? ⟨X, 1, none⟩ = some (.slice a c1.chain.length cap) := hX.cell rfl
      have d0 : w3.cell? ⟨D, 0, none⟩ = some (.int .i64 0) := hD.cell rfl
      have d1 : w3.cell? ⟨D, 1, none⟩ = some (.slice none 0 0) := hD.cell rfl
      have hf := hD.free
      have hq0 : leftOf ([] : List UInt8) 0 = 0 := rfl
      have hvE := (hv.set2 hD 0 (.int .i64 c1.epoch)).set2 (hD.set 0 (.int .i64 c1.epoch)) 1 (.slice a c1.chain.length cap)
      go_wp2_with fail
      have HE := HE.out
      simp only [Prod.mk.injEq] at HE
      obtain ⟨rfl, rfl⟩ := HE
      obtain ⟨hE, hbE⟩ := fin2 (p := .int .i64 c.epoch) (q := .slice a c.chain.length cap) hD hb hDn
      change bodyPost _ _ _ _ _ ((w3.setCell ⟨D, 0, none⟩ (.int .i64 c.epoch)).setCell ⟨D, 1, none⟩ (.slice a c.chain.length cap))
      generalize (w3.setCell ⟨D, 0, none⟩ (.int .i64 c.epoch)).setCell ⟨D, 1, none⟩ (.slice a c.chain.length cap) = W9 at *
      clear d0 d1
      have d0 := hE.cell (i := 0) rfl
      have d1 := hE.cell (i := 1) rfl
      exact bodyPost_ret (v := .tuple #[.agg #[.int .i64 c.epoch, .slice a c.chain.length cap], .int .i64 0]) (by simp [results, Try.results33, go_sem, d0, d1] <;> rfl) rfl ⟨_, rfl, hvE, hbE⟩
    · have HE := Lib.hid (show (c, ok) = (confZero, false) by rw [← HH.out, HR.out, if_neg (fun h => hq h.2)])
      go_wp2_with fail
      refine (left_any (by exact hR)).mono ?_
      rintro en w4 ⟨rfl, rfl⟩
      have hq0 : leftOf l1 0 = (l1.length : Int) := rfl
      have hq1 : 0 < l1.length := List.length_pos_iff.2 hq
      have hq2 : (0 : Int) < (l1.length : Int) := by omega
      clear hq hq1
      have d0 : w3.cell? ⟨D, 0, none⟩ = some (.int .i64 0) := hD.cell rfl
      have d1 : w3.cell? ⟨D, 1, none⟩ = some (.slice none 0 0) := hD.cell rfl
      have hf := hD.free
      go_wp2_with fail
      have HE := HE.out
      simp only [Prod.mk.injEq] at HE
      obtain ⟨rfl, rfl⟩ := HE
      obtain ⟨hE, hbE⟩ := fin2 (p := .int .i64 0) (q := .slice none 0 0) hD hb hDn
      change bodyPost _ _ _ _ _ ((w3.setCell ⟨D, 0, none⟩ (.int .i64 0)).setCell ⟨D, 1, none⟩ (.slice none 0 0))
      generalize (w3.setCell ⟨D, 0, none⟩ (.int .i64 0)).setCell ⟨D, 1, none⟩ (.slice none 0 0) = W9 at *
      clear d0 d1
      have d0 := hE.cell (i := 0) rfl
      have d1 := hE.cell (i := 1) rfl
      exact bodyPost_ret (v := .tuple #[.agg #[.int .i64 0, .slice none 0 0], .int .i64 3]) (by simp [results, Try.results33, go_sem, d0, d1] <;> rfl) rfl ⟨_, rfl, ChainAt.nil _, hbE⟩
  · have HE := Lib.hid (show (c, ok) = (confZero, false) by rw [← HH.out, HR.out, if_neg (fun h => h0 h.1)])
    have h0' : (e1 != 0) = true := by simpa using h0
    go_wp2_with fail
    refine (err_any (by exact hR)).mono ?_
    rintro en w4 ⟨rfl, rfl⟩
    have d0 : w3.cell? ⟨D, 0, none⟩ = some (.int .i64 0) := hD.cell rfl
    have d1 : w3.cell? ⟨D, 1, none⟩ = some (.slice none 0 0) := hD.cell rfl
    have hf := hD.free
    go_wp2_with fail
    have HE := HE.out
    simp only [Prod.mk.injEq] at HE
    obtain ⟨rfl, rfl⟩ := HE
    obtain ⟨hE, hbE⟩ := fin2 (p := .int .i64 0) (q := .slice none 0 0) hD hb hDn
    change bodyPost _ _ _ _ _ ((w3.setCell ⟨D, 0, none⟩ (.int .i64 0)).setCell ⟨D, 1, none⟩ (.slice none 0 0))
    generalize (w3.setCell ⟨D, 0, none⟩ (.int .i64 0)).setCell ⟨D, 1, none⟩ (.slice none 0 0) = W9 at *
    clear d0 d1
    have d0 := hE.cell (i := 0) rfl
    have d1 := hE.cell (i := 1) rfl
    exact bodyPost_ret (v := .tuple #[.agg #[.int .i64 0, .slice none 0 0], .int .i64 3]) (by simp [results, Try.results33, go_sem, d0, d1] <;> rfl) rfl ⟨_, rfl, ChainAt.nil _, hbE⟩
end Go.Proofs.Ytofdmdpnobhnlaa
