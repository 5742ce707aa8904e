/- The document's: may a setup be. -/
import Derived.Test.YtomfmejodmfioaaGreatMstMay
import Derived.Test.YtomfmejodmfioaaGreatKMst0
namespace Go.Proofs.YtomfmejodmfioaaGreat
open Go.RowKit Go.ChangeShapes Go.WideShapes Go.Joins
set_option linter.unusedVariables false

set_option maxRecDepth 100000 in
set_option maxHeartbeats 16000000 in

theorem rmay_any (s : SetV) (w : World) :
    Calls Tryz.prog 10 #[.agg (setC7 s).toArray] w fun e w' => e = .returned (.bool (mayS s)) ∧ Below w.heap.size w w' := by
  have h := BlkAt.new w 23 (setC7 s)
  have hb := (Below.refl w.heap.size w).alloc (Nat.le_refl _) (.cells (setC7 s).toArray 23)
  go_enter Tryz.func10, Tryz.ntmps10
  go_upto_region 1 with (fail)
  change Code.wp _ _ _ _ (w.alloc (.cells (setC7 s).toArray 23))
  change BlkAt (w.alloc (.cells (setC7 s).toArray 23)) _ _ _ at h
  generalize w.alloc (.cells (setC7 s).toArray 23) = W at *
  obtain ⟨sb, hsbd⟩ : ∃ sb, sb = w.heap.size := ⟨_, rfl⟩
  rw [← hsbd] at h ⊢
  clear hsbd
  have c0 : W.cell? ⟨sb, 0, none⟩ = some (.int .i64 s.nodes) := h.cell rfl
  have c1 : W.cell? ⟨sb, 1, none⟩ = some (.int .i64 s.clients) := h.cell rfl
  have c2 : W.cell? ⟨sb, 2, none⟩ = some (.int .i64 s.timers) := h.cell rfl
  have c3 : W.cell? ⟨sb, 3, none⟩ = some (.int .i64 s.lease) := h.cell rfl
  have c4 : W.cell? ⟨sb, 4, none⟩ = some (.int .i64 s.suspect) := h.cell rfl
  have c5 : W.cell? ⟨sb, 5, none⟩ = some (.int .i64 s.skew) := h.cell rfl
  have c6 : W.cell? ⟨sb, 6, none⟩ = some (.int .i64 s.base) := h.cell rfl
  clear h
  rcases six_ways (1 ≤ s.nodes) (s.nodes ≤ 8) (0 ≤ s.clients) (s.clients ≤ 4) (1 ≤ s.timers) (s.timers ≤ 16) with h | ⟨h1, h⟩ | ⟨h1, h2, h⟩ | ⟨h1, h2, h3, h⟩ | ⟨h1, h2, h3, h4, h⟩ | ⟨h1, h2, h3, h4, h5, h⟩ | ⟨h1, h2, h3, h4, h5, h6⟩
  case inr.inr.inr.inr.inr.inr =>
    rcases six_ways (1 ≤ s.lease) (s.lease ≤ 1000) (1 ≤ s.suspect) (s.suspect ≤ 1000) (0 ≤ s.skew) (s.skew ≤ 100) with g | ⟨g1, g⟩ | ⟨g1, g2, g⟩ | ⟨g1, g2, g3, g⟩ | ⟨g1, g2, g3, g4, g⟩ | ⟨g1, g2, g3, g4, g5, g⟩ | ⟨g1, g2, g3, g4, g5, g6⟩
    case inr.inr.inr.inr.inr.inr =>
      by_cases b1 : 0 ≤ s.base
      · by_cases b2 : s.base ≤ 1099511627776
        all_goals
          skip
          go_wp2_with fail
          go_ret
          first
          | exact ⟨by rw [may_no (by omega)]; rfl, hb⟩
          | exact ⟨by rw [may_yes (by omega)]; rfl, hb⟩
      · skip
        go_wp2_with fail
        go_ret
        first
        | exact ⟨by rw [may_no (by omega)]; rfl, hb⟩
        | exact ⟨by rw [may_yes (by omega)]; rfl, hb⟩
    all_goals
      skip
      go_wp2_with fail
      go_ret
      first
      | exact ⟨by rw [may_no (by omega)]; rfl, hb⟩
      | exact ⟨by rw [may_yes (by omega)]; rfl, hb⟩
  all_goals
    skip
    go_wp2_with fail
    go_ret
    first
    | exact ⟨by rw [may_no (by omega)]; rfl, hb⟩
    | exact ⟨by rw [may_yes (by omega)]; rfl, hb⟩
end Go.Proofs.YtomfmejodmfioaaGreat
