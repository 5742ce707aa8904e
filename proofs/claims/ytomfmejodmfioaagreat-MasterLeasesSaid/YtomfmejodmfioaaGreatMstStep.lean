/- What a player's step comes to, in plain Lean. -/
import Derived.Test.YtomfmejodmfioaaGreatMstInv
namespace Go.Proofs.YtomfmejodmfioaaGreat
set_option linter.unusedVariables false

/-- A step of a script. -/
structure MopV where
  kind : Int
  d : Int
  e : Int
  keep : Int
  node : Int
  life : Int
  flag : Bool
def modU (x k : Int) : Int := (IntKind.u64.wrap x).tmod k
theorem u64_pos (x : Int) : 0 ≤ IntKind.u64.wrap x := by
  rw [u64_wrap]
  omega
theorem modU_in {x k : Int} (hk : 0 < k) : 0 ≤ modU x k ∧ modU x k < k := by
  unfold modU
  exact ⟨Int.tmod_nonneg _ (u64_pos x), Int.tmod_lt_of_pos _ hk⟩
def nowP (now d : Int) : Int := now + modU d 10
theorem nowP_in (now d : Int) : now ≤ nowP now d ∧ nowP now d ≤ now + 9 := by
  have := modU_in (x := d) (k := 10) (by decide)
  unfold nowP
  omega
/-- What a step leaves: at the time now (its own). -/
structure Stepd (s : SetV) (V : MstV) (l : List UInt8) (cs : List ConfV) (now : Int) (o : MopV) (V' : MstV) (l' : List UInt8) (cs' : List ConfV) (said : List (Int × Int)) : Prop where
  inv : Inv s V' l' cs'
  grow : (V'.cf = V.cf ∧ cs' = cs) ∨ (StepTo V V'.cf ∧ followsC V.cf V'.cf = true ∧ cs' = cs ++ [V'.cf])
  one : o.kind = 1 → V' = (beatM V l o.node o.life ⟨now, o.e, o.flag, now + modU o.keep 8⟩ now).1 ∧ said = beatL V l o.node o.life ⟨now, o.e, o.flag, now + modU o.keep 8⟩ now
  two : o.kind = 2 → ∃ V1, Turned s V l cs now V1 l' cs' ∧ V' = annM V1 now ∧ said = annL V1 now
  three : o.kind = 3 → V' = suspectM V o.node ∧ said = []
  four : o.kind = 4 → (V'.cf = V.cf ∨ wantsM V now = (V'.cf, true)) ∧ V' = recoverM s cs' V'.cf now ∧ said = []
  five : o.kind = 5 → V' = V ∧ l' = l ∧ cs' = cs ∧ said = (if o.e < 100 then [] else [(o.e, 0)])
  other : ¬ o.kind = 1 → ¬ o.kind = 2 → ¬ o.kind = 3 → ¬ o.kind = 4 → ¬ o.kind = 5 → V' = V ∧ said = []
section
variable {s : SetV} {V : MstV} {l : List UInt8} {cs : List ConfV}
theorem StepTo.same {V V1 : MstV} {c : ConfV} (h : StepTo V1 c) (h1 : V1.cf = V.cf) (h2 : V1.sat = V.sat) : StepTo V c := by
  unfold StepTo at h ⊢
  rw [h1, h2] at h
  exact h
theorem step_one (h : Inv s V l cs) (o : MopV) (hk : o.kind = 1) (now : Int) : ∃ cs', Stepd s V l cs now o (beatM V l o.node o.life ⟨now, o.e, o.flag, now + modU o.keep 8⟩ now).1 (beatM V l o.node o.life ⟨now, o.e, o.flag, now + modU o.keep 8⟩ now).2 cs' (beatL V l o.node o.life ⟨now, o.e, o.flag, now + modU o.keep 8⟩ now) := by
  have mk : ∀ {V' l' cs' said}, V' = (beatM V l o.node o.life ⟨now, o.e, o.flag, now + modU o.keep 8⟩ now).1 → said = beatL V l o.node o.life ⟨now, o.e, o.flag, now + modU o.keep 8⟩ now → Inv s V' l' cs' → ((V'.cf = V.cf ∧ cs' = cs) ∨ (StepTo V V'.cf ∧ followsC V.cf V'.cf = true ∧ cs' = cs ++ [V'.cf])) → Stepd s V l cs now o V' l' cs' said :=
    fun h1 h2 h3 h4 => ⟨h3, h4, fun _ => ⟨h1, h2⟩, fun e => by omega, fun e => by omega, fun e => by omega, fun e => by omega, fun e => absurd hk e⟩
  cases hh : heardB V o.node o.life with
  | false =>
    refine ⟨cs, mk rfl rfl ?_ ?_⟩
    · simp only [beatM, hh]; exact h
    · simp [beatM, hh]
  | true =>
    have hi : Inv s (hearM V o.node o.life ⟨now, o.e, o.flag, now + modU o.keep 8⟩) l cs := h.keep rfl rfl rfl
    obtain ⟨cs', ht⟩ := turn_turned hi now
    have e : beatM V l o.node o.life ⟨now, o.e, o.flag, now + modU o.keep 8⟩ now = turnM (hearM V o.node o.life ⟨now, o.e, o.flag, now + modU o.keep 8⟩) l now := by simp [beatM, hh]
    refine ⟨cs', mk rfl rfl ?_ ?_⟩
    · rw [e]; exact ht.inv
    · rw [e]
      rcases ht.step with h1 | ⟨h1, h2⟩
      · exact .inl h1
      · have hf := wants_follows h1
        rw [hearM_cf] at hf
        exact .inr ⟨(wants_step h1).same rfl rfl, hf, h2⟩
theorem step_two (h : Inv s V l cs) (o : MopV) (hk : o.kind = 2) (now : Int) : ∃ cs', Stepd s V l cs now o (tickM V l now).1 (tickM V l now).2 cs' (annL (turnM V l now).1 now) := by
  obtain ⟨cs', ht⟩ := turn_turned h now
  refine ⟨cs', ht.inv.keep rfl rfl rfl, ?_, fun e => by omega, fun _ => ⟨_, ht, rfl, rfl⟩, fun e => by omega, fun e => by omega, fun e => by omega, fun _ e => absurd hk e⟩
  rcases ht.step with h1 | ⟨h1, h2⟩
  · exact .inl h1
  · exact .inr ⟨wants_step h1, wants_follows h1, h2⟩
theorem step_three (h : Inv s V l cs) (o : MopV) (hk : o.kind = 3) (now : Int) : Stepd s V l cs now o (suspectM V o.node) l cs [] :=
  ⟨h.keep rfl rfl rfl, .inl ⟨rfl, rfl⟩, fun e => by omega, fun e => by omega, fun _ => ⟨rfl, rfl⟩, fun e => by omega, fun e => by omega, fun _ _ e => absurd hk e⟩
theorem step_four (h : Inv s V l cs) (o : MopV) (hk : o.kind = 4) (now : Int) {cs' : List ConfV} {last : ConfV} (hl : cs'.getLast? = some last) (hr : Row cs') (hlen : (recs (cs'.map encConf)).length ≤ 65536) (hc : (last = V.cf ∧ cs' = cs) ∨ (wantsM V now = (last, true) ∧ cs' = cs ++ [last])) :
    Stepd s V l cs now o (recoverM s cs' last now) (recs (cs'.map encConf)) cs' [] := by
  refine ⟨recover_inv hr hl hlen now, ?_, fun e => by omega, fun e => by omega, fun e => by omega, fun _ => ⟨?_, rfl, rfl⟩, fun e => by omega, fun _ _ _ e => absurd hk e⟩
  · rcases hc with h1 | ⟨h1, h2⟩
    · exact .inl h1
    · exact .inr ⟨wants_step h1, wants_follows h1, h2⟩
  · rcases hc with h1 | ⟨h1, h2⟩
    · exact .inl h1.1
    · exact .inr h1
theorem step_five (h : Inv s V l cs) (o : MopV) (hk : o.kind = 5) (now : Int) : Stepd s V l cs now o V l cs (if o.e < 100 then [] else [(o.e, 0)]) :=
  ⟨h, .inl ⟨rfl, rfl⟩, fun e => by omega, fun e => by omega, fun e => by omega, fun e => by omega, fun _ => ⟨rfl, rfl, rfl, rfl⟩, fun _ _ _ _ e => absurd hk e⟩
theorem step_other (h : Inv s V l cs) (o : MopV) (h1 : ¬ o.kind = 1) (h2 : ¬ o.kind = 2) (h3 : ¬ o.kind = 3) (h4 : ¬ o.kind = 4) (h5 : ¬ o.kind = 5) (now : Int) : Stepd s V l cs now o V l cs [] :=
  ⟨h, .inl ⟨rfl, rfl⟩, fun e => absurd e h1, fun e => absurd e h2, fun e => absurd e h3, fun e => absurd e h4, fun e => absurd e h5, fun _ _ _ _ _ => ⟨rfl, rfl⟩⟩
end

/-! ### what the laws ask of a step -/
section
variable {s : SetV} {V V' : MstV} {l l' : List UInt8} {cs cs' : List ConfV} {now : Int} {o : MopV} {said : List (Int × Int)}
theorem Stepd.follows (h : Stepd s V l cs now o V' l' cs' said) (hi : Inv s V l cs) : followsC V.cf V'.cf = true := by
  rcases h.grow with ⟨h1, _⟩ | ⟨_, h1, _⟩
  · rw [h1]; exact follows_self hi.right
  · exact h1
/-- But for a beat: the chain is as it was, or the one that was wanted. -/
theorem Stepd.wanted (h : Stepd s V l cs now o V' l' cs' said) (h1 : ¬ o.kind = 1) : V'.cf = V.cf ∨ wantsM V now = (V'.cf, true) := by
  by_cases h2 : o.kind = 2
  · obtain ⟨V1, ht, rfl, _⟩ := h.two h2
    rcases ht.step with h3 | h3
    · exact .inl h3.1
    · exact .inr h3.1
  · by_cases h3 : o.kind = 3
    · rw [(h.three h3).1]; exact .inl rfl
    · by_cases h4 : o.kind = 4
      · exact (h.four h4).1
      · by_cases h5 : o.kind = 5
        · rw [(h.five h5).1]; exact .inl rfl
        · rw [(h.other h1 h2 h3 h4 h5).1]; exact .inl rfl
/-- A tick turns to what is wanted, unless the log is full. -/
theorem Stepd.ticked (h : Stepd s V l cs now o V' l' cs' said) (h2 : o.kind = 2) (hl : l'.length ≤ 65000) : (wantsM V now).2 = true ↔ V'.cf ≠ V.cf := by
  obtain ⟨V1, ht, rfl, _⟩ := h.two h2
  constructor
  · intro hw e
    have := ht.full hw e
    omega
  · intro hne
    rcases ht.step with h3 | h3
    · exact absurd h3.1 hne
    · rw [h3.1]
/-- The head of a chain was synced, and sat, in the one ahead. -/
theorem step_head {V : MstV} {c : ConfV} (hr : rightC V.cf = true) (h : StepTo V c) : ∃ q t i, c.chain[0]? = some q ∧ placeC V.cf.chain q.node q.life = (i : Nat) ∧ V.cf.chain[i]? = some t ∧ t.sync = true := by
  have hpl : ∀ {q t : SeatV} {i : Nat}, V.cf.chain[i]? = some t → t.node = q.node → t.life = q.life → placeC V.cf.chain q.node q.life = (i : Nat) := by
    intro q t i ht h1 h2
    refine placeBy_hit ht (by simp [h1, h2]) fun j u hj hu => ?_
    rw [Bool.eq_false_iff]
    intro hp
    simp only [Bool.and_eq_true, beq_iff_eq] at hp
    have hpw := seatsOk_nodes (rightC_iff.1 hr).2.2.2.2.2
    have hne := List.pairwise_iff_getElem.1 hpw j i (List.getElem?_eq_some_iff.1 hu).1 (List.getElem?_eq_some_iff.1 ht).1 hj
    rw [(List.getElem?_eq_some_iff.1 hu).2, (List.getElem?_eq_some_iff.1 ht).2] at hne
    exact hne (hp.1.trans h1.symm)
  rcases h with ⟨g, h⟩ | ⟨q, hq, h⟩ | ⟨n, lf, h, _⟩
  · obtain ⟨_, rfl, _, h0, _⟩ := without_facts (e := V.cf.epoch) (L := V.cf.chain) h
    simp only
    cases hs : (leftC V.cf.chain g)[0]? with
    | none => rw [hs] at h0; simp at h0
    | some t =>
      rw [hs] at h0
      have hm : t ∈ V.cf.chain := (List.mem_filter.1 (List.mem_of_getElem? hs)).1
      obtain ⟨i, hi⟩ := List.getElem?_of_mem hm
      exact ⟨t, t, i, rfl, hpl hi rfl rfl, hi, by simpa using h0⟩
  · have hf := step_facts (k := 3) (m := (q.node, q.life)) (n := (0, 0)) hr (by unfold stepC; simp only; exact h)
    exact hf.2.2.2
  · have hf := step_facts (k := 2) (m := (n, lf)) (n := (0, 0)) hr (by unfold stepC; simp only; exact h)
    exact hf.2.2.2
theorem self_head {c : ConfV} (hr : rightC c = true) : ∃ q t i, c.chain[0]? = some q ∧ placeC c.chain q.node q.life = (i : Nat) ∧ c.chain[i]? = some t ∧ t.sync = true :=
  (step_facts (k := 0) (m := (0, 0)) (n := (0, 0)) hr rfl).2.2.2
theorem Stepd.head (h : Stepd s V l cs now o V' l' cs' said) (hi : Inv s V l cs) : ∃ q t i, V'.cf.chain[0]? = some q ∧ placeC V.cf.chain q.node q.life = (i : Nat) ∧ V.cf.chain[i]? = some t ∧ t.sync = true := by
  rcases h.grow with ⟨h1, _⟩ | ⟨h1, _, _⟩
  · rw [h1]; exact self_head hi.right
  · exact step_head hi.right h1
theorem place_of_mem {L : List SeatV} {q : SeatV} (h : q ∈ L) : 0 ≤ placeC L q.node q.life := by
  have := placeBy_any (fun s => s.node == q.node && s.life == q.life) L
  rw [List.any_eq_true.2 ⟨q, h, by simp⟩] at this
  exact of_decide_eq_true this
/-- Who is new in a chain never sat. -/
theorem Stepd.fresh (h : Stepd s V l cs now o V' l' cs' said) (hi : Inv s V l cs) {q : SeatV} (hq : q ∈ V'.cf.chain) (hp : placeC V.cf.chain q.node q.life < 0) : ∀ c ∈ cs, ¬ Sits c q.node q.life := by
  have hn : q ∉ V.cf.chain := fun hm => by have := place_of_mem hm; omega
  rcases h.grow with ⟨h1, _⟩ | ⟨h1, _, _⟩
  · rw [h1] at hq
    exact absurd hq hn
  · rcases h1 with ⟨g, h1⟩ | ⟨t, ht, h1⟩ | ⟨n, lf, h1, h2⟩
    · obtain ⟨_, hc, _⟩ := without_facts (e := V.cf.epoch) (L := V.cf.chain) h1
      rw [hc] at hq
      exact absurd (List.mem_filter.1 hq).1 hn
    · obtain ⟨_, k, hk, _, hc⟩ := synced_facts (e := V.cf.epoch) (L := V.cf.chain) h1
      rw [hc] at hq
      rcases List.mem_or_eq_of_mem_set hq with hq | rfl
      · exact absurd hq hn
      · have := place_of_mem (List.mem_of_getElem? hk)
        simp only at this hp
        omega
    · obtain ⟨_, _, _, hc, _⟩ := join_facts (e := V.cf.epoch) (L := V.cf.chain) h1
      rw [hc] at hq
      rcases List.mem_append.1 hq with hq | hq
      · exact absurd hq hn
      · rw [List.mem_singleton.1 hq]
        intro c hc' hs
        have := (hi.sat n lf).2 ⟨c, hc', hs⟩
        rw [h2] at this
        cases this
end
end Go.Proofs.YtomfmejodmfioaaGreat
