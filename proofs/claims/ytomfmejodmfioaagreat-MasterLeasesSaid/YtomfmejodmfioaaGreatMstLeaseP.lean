/- What a step comes to for leases and lives, in plain Lean. -/
import Derived.Test.YtomfmejodmfioaaGreatMstStep
namespace Go.Proofs.YtomfmejodmfioaaGreat
set_option linter.unusedVariables false

theorem grant_fold (V : MstV) (late : List (Int × Int)) (now : Int) : ∀ (L : List SeatV) (f : Int → Int → Int), (∀ n lf, f n lf ≤ (L.foldl (grantS V late now) f) n lf) ∧ ∀ q ∈ L, late.contains q.mem = false → now + V.s.lease ≤ (L.foldl (grantS V late now) f) q.node q.life
  | [], f => ⟨fun _ _ => Int.le_refl _, fun q h => by simp at h⟩
  | x :: L, f => by
    have one : (∀ n lf, f n lf ≤ grantS V late now f x n lf) ∧ (late.contains x.mem = false → now + V.s.lease ≤ grantS V late now f x x.node x.life) := by
      unfold grantS
      split
      · rename_i h
        exact ⟨fun _ _ => Int.le_refl _, fun h9 => by rw [h] at h9; cases h9⟩
      · split
        · rename_i h
          refine ⟨fun n lf => ?_, fun _ => by rw [updM_same]; exact Int.le_refl _⟩
          by_cases e : n = x.node ∧ lf = x.life
          · obtain ⟨rfl, rfl⟩ := e
            rw [updM_same]
            omega
          · rw [updM_other _ _ e]
            exact Int.le_refl _
        · rename_i h
          exact ⟨fun _ _ => Int.le_refl _, fun _ => by omega⟩
    obtain ⟨a1, a2⟩ := grant_fold V late now L (grantS V late now f x)
    rw [List.foldl_cons]
    refine ⟨fun n lf => Int.le_trans (one.1 n lf) (a1 n lf), fun q hq hl => ?_⟩
    rcases List.mem_cons.1 hq with rfl | hq
    · exact Int.le_trans (one.2 hl) (a1 _ _)
    · exact a2 q hq hl
section
variable {s : SetV} {V V' : MstV} {l l' : List UInt8} {cs cs' : List ConfV} {now : Int} {o : MopV} {said : List (Int × Int)}
/-- A message that grants a lease: of a tick, until then; and so long it is had. -/
theorem Stepd.until (h : Stepd s V l cs now o V' l' cs' said) {m : Int × Int} (hm : m ∈ said) (h0 : m.2 ≠ 0) : o.kind = 2 ∧ m.2 = now + s.lease ∧ ∀ x ∈ V'.cf.chain, x.node = m.1 → now + s.lease ≤ V'.til x.node x.life := by
  by_cases h1 : o.kind = 1
  · exfalso
    rw [(h.one h1).2] at hm
    unfold beatL at hm
    split at hm
    · split at hm
      · simp at hm
      · rw [List.mem_singleton.1 hm] at h0
        exact h0 rfl
    · simp at hm
  · by_cases h2 : o.kind = 2
    · obtain ⟨V1, ht, rfl, hs⟩ := h.two h2
      rw [hs] at hm
      obtain ⟨q, hq, rfl⟩ := List.mem_map.1 hm
      have hset : V1.s = s := ht.inv.set
      have hl : (lateM V1 now).contains q.mem = false := by
        cases hc : (lateM V1 now).contains q.mem with
        | false => rfl
        | true =>
          exfalso
          apply h0
          show (if (lateM V1 now).contains q.mem = true then (0 : Int) else _) = 0
          rw [if_pos hc]
      have hu : (tellS V1 (lateM V1 now) now q).2 = now + s.lease := by
        show (if (lateM V1 now).contains q.mem = true then (0 : Int) else now + V1.s.lease) = now + s.lease
        rw [if_neg (by rw [hl]; exact Bool.false_ne_true), hset]
      refine ⟨h2, hu, fun x hx hn => ?_⟩
      have hx' : x ∈ V1.cf.chain := hx
      have hn' : x.node = q.node := hn
      have hpw := seatsOk_nodes (rightC_iff.1 ht.inv.right).2.2.2.2.2
      obtain rfl : x = q := nodes_inj hpw hx' hq hn'
      have := (grant_fold V1 (lateM V1 now) now V1.cf.chain V1.til).2 x hx' hl
      rw [hset] at this
      exact this
    · exfalso
      by_cases h3 : o.kind = 3
      · rw [(h.three h3).2] at hm; simp at hm
      · by_cases h4 : o.kind = 4
        · rw [(h.four h4).2.2] at hm; simp at hm
        · by_cases h5 : o.kind = 5
          · rw [(h.five h5).2.2.2] at hm
            split at hm
            · simp at hm
            · rw [List.mem_singleton.1 hm] at h0
              exact h0 rfl
          · rw [(h.other h1 h2 h3 h4 h5).2] at hm; simp at hm
/-- At most eight messages. -/
theorem Stepd.few (h : Stepd s V l cs now o V' l' cs' said) : said.length ≤ 8 := by
  by_cases h1 : o.kind = 1
  · rw [(h.one h1).2]
    unfold beatL
    split
    · split <;> simp
    · simp
  · by_cases h2 : o.kind = 2
    · obtain ⟨V1, ht, rfl, hs⟩ := h.two h2
      rw [hs]
      have := (rightC_iff.1 ht.inv.right).2.2.2.1
      simpa [annL] using this
    · by_cases h3 : o.kind = 3
      · rw [(h.three h3).2]; simp
      · by_cases h4 : o.kind = 4
        · rw [(h.four h4).2.2]; simp
        · by_cases h5 : o.kind = 5
          · rw [(h.five h5).2.2.2]
            split <;> simp
          · rw [(h.other h1 h2 h3 h4 h5).2]; simp
/-- Who goes is dead, or free. -/
theorem gone_of {V : MstV} {c : ConfV} (hw : wantsM V now = (c, true)) {q : SeatV} (hq : q ∈ V.cf.chain) (hp : placeC c.chain q.node q.life < 0) : q.life < V.life q.node ∨ max (V.til q.node q.life) V.held ≤ now := by
  rcases wants_cases hw with h | ⟨t, ht, h⟩ | ⟨n, _, h, _⟩
  · obtain ⟨_, hc, _⟩ := without_facts (e := V.cf.epoch) (L := V.cf.chain) h
    have hg : (goneM V now).contains (q.node, q.life) = true := by
      cases hc9 : (goneM V now).contains (q.node, q.life) with
      | true => rfl
      | false =>
        have hin : q ∈ c.chain := by
          rw [hc]
          exact List.mem_filter.2 ⟨hq, by
            show (!(goneM V now).contains (q.node, q.life)) = true
            rw [hc9]
            rfl⟩
        have := place_of_mem hin
        omega
    have hm : (q.node, q.life) ∈ goneM V now := by simpa using hg
    unfold goneM at hm
    rcases List.mem_append.1 hm with hm | hm
    · left
      obtain ⟨t, ht, he⟩ := List.mem_map.1 hm
      have hd := (List.mem_filter.1 ht).2
      unfold SeatV.mem at he
      injection he with e1 e2
      rw [e1, e2] at hd
      exact of_decide_eq_true hd
    · right
      split at hm
      · have := (freeM_mem.1 hm).2.2
        exact of_decide_eq_true this
      · simp at hm
  · exfalso
    obtain ⟨_, k, hk, _, hc⟩ := synced_facts (e := V.cf.epoch) (L := V.cf.chain) h
    obtain ⟨i, hi⟩ := List.getElem?_of_mem hq
    have hil := (List.getElem?_eq_some_iff.1 hi).1
    by_cases hik : i = k
    · subst hik
      rw [hi] at hk
      injection hk with hk
      have hin : (⟨t.node, t.life, true⟩ : SeatV) ∈ c.chain := by
        rw [hc]
        exact List.mem_of_getElem? (List.getElem?_set_self hil)
      have := place_of_mem hin
      rw [hk] at hp
      simp only at this hp
      omega
    · have hin : q ∈ c.chain := by
        rw [hc]
        exact List.mem_of_getElem? (by rw [List.getElem?_set_ne (Ne.symm hik)]; exact hi)
      have := place_of_mem hin
      omega
  · exfalso
    obtain ⟨_, _, _, hc, _⟩ := join_facts (e := V.cf.epoch) (L := V.cf.chain) h
    have hin : q ∈ c.chain := by
      rw [hc]
      exact List.mem_append_left _ hq
    have := place_of_mem hin
    omega
theorem Stepd.gone (h : Stepd s V l cs now o V' l' cs' said) (hi : Inv s V l cs) (hk : o.kind = 1 ∨ o.kind = 2) {q : SeatV} (hq : q ∈ V.cf.chain) (hp : placeC V'.cf.chain q.node q.life < 0) : q.life < V'.life q.node ∨ max (V.til q.node q.life) V.held ≤ now := by
  have hne : V'.cf ≠ V.cf := fun e => by
    rw [e] at hp
    have := place_of_mem hq
    omega
  rcases hk with hk | hk
  · obtain ⟨h1, _⟩ := h.one hk
    cases hh : heardB V o.node o.life with
    | false =>
      rw [h1] at hne
      simp [beatM, hh] at hne
    | true =>
      have hi2 : Inv s (hearM V o.node o.life ⟨now, o.e, o.flag, now + modU o.keep 8⟩) l cs := hi.keep rfl rfl rfl
      obtain ⟨cs2, ht⟩ := turn_turned hi2 now
      have e : V' = (turnM (hearM V o.node o.life ⟨now, o.e, o.flag, now + modU o.keep 8⟩) l now).1 := by rw [h1]; simp [beatM, hh]
      rw [← e] at ht
      rcases ht.step with h2 | ⟨h2, _⟩
      · exact absurd h2.1 hne
      · have := gone_of h2 (q := q) hq hp
        unfold MstV.life at this ⊢
        rw [ht.lives]
        exact this
  · obtain ⟨V1, ht, rfl, _⟩ := h.two hk
    rcases ht.step with h2 | ⟨h2, _⟩
    · exact absurd h2.1 hne
    · have := gone_of h2 (q := q) hq hp
      have hl : (annM V1 now).life q.node = V.life q.node := by
        show V1.life q.node = _
        unfold MstV.life
        rw [ht.lives]
      rw [hl]
      exact this
/-- What the law has noted of leases. -/
def LawU (s : SetV) (V : MstV) (now : Int) (U : Int → Int → Option Int) : Prop := ∀ n lf, (U n lf).getD 0 ≤ max (V.til n lf) V.held ∧ (U n lf).getD 0 ≤ now + s.lease
theorem Stepd.lawU (h : Stepd s V l cs now o V' l' cs' said) (hi : Inv s V l cs) {now0 : Int} (hn : now0 ≤ now) {U : Int → Int → Option Int} (hU : LawU s V now0 U) : LawU s V' now U := by
  have keep : V'.til = V.til → V'.held = V.held → LawU s V' now U := fun h1 h2 n lf => by
    have := hU n lf
    rw [h1, h2]
    exact ⟨this.1, by omega⟩
  by_cases h1 : o.kind = 1
  · obtain ⟨e, _⟩ := h.one h1
    cases hh : heardB V o.node o.life with
    | false => exact keep (by rw [e]; simp [beatM, hh]) (by rw [e]; simp [beatM, hh])
    | true =>
      have hi2 : Inv s (hearM V o.node o.life ⟨now, o.e, o.flag, now + modU o.keep 8⟩) l cs := hi.keep rfl rfl rfl
      obtain ⟨cs2, ht⟩ := turn_turned hi2 now
      have e2 : V' = (turnM (hearM V o.node o.life ⟨now, o.e, o.flag, now + modU o.keep 8⟩) l now).1 := by rw [e]; simp [beatM, hh]
      rw [← e2] at ht
      exact keep ht.til ht.held
  · by_cases h2 : o.kind = 2
    · obtain ⟨V1, ht, rfl, _⟩ := h.two h2
      intro n lf
      have h3 := (grant_fold V1 (lateM V1 now) now V1.cf.chain V1.til).1 n lf
      have h4 := hU n lf
      have e1 : (annM V1 now).held = V.held := ht.held
      have e2 : V1.til n lf = V.til n lf := by rw [ht.til]
      have e3 : (annM V1 now).til n lf = (V1.cf.chain.foldl (grantS V1 (lateM V1 now) now) V1.til) n lf := rfl
      rw [e1, e3]
      exact ⟨by omega, by omega⟩
    · by_cases h3 : o.kind = 3
      · exact keep (by rw [(h.three h3).1]; rfl) (by rw [(h.three h3).1]; rfl)
      · by_cases h4 : o.kind = 4
        · intro n lf
          have h5 := hU n lf
          obtain ⟨_, e, _⟩ := h.four h4
          rw [e]
          show _ ≤ max (0 : Int) (max 0 (now + s.lease)) ∧ _
          exact ⟨by omega, by omega⟩
        · by_cases h5 : o.kind = 5
          · exact keep (by rw [(h.five h5).1]) (by rw [(h.five h5).1])
          · exact keep (by rw [(h.other h1 h2 h3 h4 h5).1]) (by rw [(h.other h1 h2 h3 h4 h5).1])
theorem LawU.put {U : Int → Int → Option Int} (hU : LawU s V now U) {x y : Int} (h : now + s.lease ≤ V.til x y) : LawU s V now (updM U x y (some (now + s.lease))) := fun n lf => by
  by_cases e : n = x ∧ lf = y
  · obtain ⟨rfl, rfl⟩ := e
    rw [updM_same]
    simp only [Option.getD_some]
    exact ⟨by omega, Int.le_refl _⟩
  · rw [updM_other _ _ e]
    exact hU n lf
/-- What the law has noted of lives. -/
def LawL (V : MstV) (La : List Int) : Prop := ∀ n : Nat, n < 8 → V.life n ≤ (La[n]?).getD 0
theorem life_set {V : MstV} (hl : V.lives.length = 8) {k : Nat} (hk : k < 8) (lf : Int) (b : BeatV) (n : Nat) (hn : n < 8) : (hearM V (k : Nat) lf b).life n = if n = k then lf else V.life n := by
  unfold MstV.life hearM
  simp only [Int.toNat_natCast]
  by_cases e : n = k
  · subst e
    rw [if_pos rfl, List.getElem?_set_self (by omega)]
    rfl
  · rw [if_neg e, List.getElem?_set_ne (Ne.symm e)]
/-- Behind a step that is no crash: from what was noted ahead of it. -/
theorem Stepd.lawL (h : Stepd s V l cs now o V' l' cs' said) (hi : Inv s V l cs) (hlen : V.lives.length = 8) (hnodes : s.nodes ≤ 8) (hk : ¬ o.kind = 4) {La La2 : List Int} (hL : LawL V La) (h1 : ∀ n : Nat, n < 8 → (La[n]?).getD 0 ≤ (La2[n]?).getD 0) (h2 : o.kind = 1 → 0 ≤ o.node → o.node < s.nodes → o.life ≤ (La2[o.node.toNat]?).getD 0) : LawL V' La2 := by
  have keep : V'.lives = V.lives → LawL V' La2 := fun e n hn => by
    have := hL n hn
    have := h1 n hn
    unfold MstV.life at *
    rw [e]
    omega
  by_cases g1 : o.kind = 1
  · obtain ⟨e, _⟩ := h.one g1
    cases hh : heardB V o.node o.life with
    | false => exact keep (by rw [e]; simp [beatM, hh])
    | true =>
      have hi2 : Inv s (hearM V o.node o.life ⟨now, o.e, o.flag, now + modU o.keep 8⟩) l cs := hi.keep rfl rfl rfl
      obtain ⟨cs2, ht⟩ := turn_turned hi2 now
      have e2 : V' = (turnM (hearM V o.node o.life ⟨now, o.e, o.flag, now + modU o.keep 8⟩) l now).1 := by rw [e]; simp [beatM, hh]
      rw [← e2] at ht
      unfold heardB at hh
      rw [decide_eq_true_eq, hi.set] at hh
      obtain ⟨k, hkn⟩ : ∃ k : Nat, o.node = k := ⟨o.node.toNat, by omega⟩
      have h3 := h2 g1 hh.1 hh.2.1
      intro n hn
      have e3 : V'.life n = (hearM V (k : Nat) o.life ⟨now, o.e, o.flag, now + modU o.keep 8⟩).life n := by
        unfold MstV.life
        rw [ht.lives, hkn]
      rw [e3, life_set hlen (by omega) _ _ n hn]
      split
      · rename_i e4
        subst e4
        rw [hkn, Int.toNat_natCast] at h3
        exact h3
      · have := hL n hn
        have := h1 n hn
        omega
  · by_cases g2 : o.kind = 2
    · obtain ⟨V1, ht, rfl, _⟩ := h.two g2
      exact keep ht.lives
    · by_cases g3 : o.kind = 3
      · exact keep (by rw [(h.three g3).1]; rfl)
      · by_cases g5 : o.kind = 5
        · exact keep (by rw [(h.five g5).1])
        · exact keep (by rw [(h.other g1 g2 g3 hk g5).1])
theorem Stepd.lawL4 (h : Stepd s V l cs now o V' l' cs' said) (hk : o.kind = 4) : LawL V' (beginL V'.cf.chain) := fun n hn => by
  obtain ⟨_, e, _⟩ := h.four hk
  have : V'.lives = beginL V'.cf.chain := by
    have h2 := congrArg MstV.lives e
    exact h2
  unfold MstV.life
  rw [this, Int.toNat_natCast]
  exact Int.le_refl _
end
end Go.Proofs.YtomfmejodmfioaaGreat
