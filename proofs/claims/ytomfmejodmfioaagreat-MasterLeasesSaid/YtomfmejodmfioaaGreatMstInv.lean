/- The master's log, and what a player's steps come to, in plain Lean. -/
import Derived.Test.YtomfmejodmfioaaGreatKMstP
namespace Go.Proofs.YtomfmejodmfioaaGreat
set_option linter.unusedVariables false

/-! ### the log -/
theorem mwrite_cases (l s : List UInt8) (keep : Int) : (∃ x, x ≠ 0 ∧ writeS l false s keep = (l, x) ∧ (1024 < s.length ∨ 65536 < l.length + (bytesS s).length)) ∨ (s.length ≤ 1024 ∧ l.length + (bytesS s).length ≤ 65536 ∧ writeS l false s keep = (l ++ (bytesS s).take (keepS s keep), 0)) := by
  unfold writeS
  split
  · exact .inl ⟨15, by omega, rfl, .inl (by omega)⟩
  · split
    · rename_i h; cases h
    · split
      · exact .inl ⟨5, by omega, rfl, .inr (by omega)⟩
      · exact .inr ⟨by omega, by omega, rfl⟩
theorem mkeep_all {s : List UInt8} (h : s.length ≤ 1024) : (bytesS s).take (keepS s big) = bytesS s := by
  apply List.take_of_length_le
  have h1 := bytesS_len s
  have h2 := encS_len s
  unfold keepS big
  omega
theorem mcrash_scan {K : List (List UInt8)} {s : List UInt8} {j : Nat} (hK : ∀ t ∈ K, t.length ≤ 1000000) (hs : s.length ≤ 1024) (hj : j ≤ (bytesS s).length) :
    scanS (recs K ++ (bytesS s).take j) = (K ++ [s], (recs (K ++ [s])).length) ∧ recs K ++ (bytesS s).take j = recs (K ++ [s]) ∨ scanS (recs K ++ (bytesS s).take j) = (K, (recs K).length) := by
  rcases Nat.lt_or_ge j (bytesS s).length with h | h
  · exact .inr (scan_recs K _ hK (one_cut s (by omega) h))
  · left
    rw [List.take_of_length_le h, ← recs_snoc]
    exact ⟨scan_all _ (by
      intro t ht
      rcases List.mem_append.1 ht with ht | ht
      · exact hK t ht
      · rw [List.mem_singleton.1 ht]; omega), rfl⟩
theorem mrecs_small {K : List (List UInt8)} (h : (recs K).length ≤ 65536) : ∀ t ∈ K, t.length ≤ 1000000 := by
  intro t ht
  have : t.length ≤ (recs K).length := by
    clear h
    induction K with
    | nil => cases ht
    | cons a L ih =>
      rw [recs_cons, List.length_append]
      have h1 := bytesS_len a
      have h2 := encS_len a
      rcases List.mem_cons.1 ht with rfl | h
      · omega
      · have := ih h; omega
  omega
theorem mrecs_count {K : List (List UInt8)} : K.length ≤ (recs K).length := by
  induction K with
  | nil => exact Nat.le_refl _
  | cons a L ih =>
    rw [recs_cons, List.length_append, List.length_cons]
    have h1 := bytesS_len a
    omega
theorem conf_small {c : ConfV} (h : rightC c = true) : (encConf c).length ≤ 188 ∧ (bytesS (encConf c)).length ≤ 210 := by
  have h1 := encConf_len c
  have h2 := (rightC_iff.1 h).2.2.2.1
  have h3 := bytesS_len (encConf c)
  have h4 := (encS_len (encConf c)).2
  omega

/-! ### rows of chains -/
/-- Chains of which each may come behind the one ahead. -/
def Row (cs : List ConfV) : Prop := (∀ c ∈ cs, rightC c = true) ∧ ∀ (k : Nat) (a b : ConfV), cs[k]? = some a → cs[k + 1]? = some b → followsC a b = true
/-- The one ahead of k. -/
def prevC (cs : List ConfV) (k : Nat) : ConfV := if k = 0 then ⟨0, []⟩ else (cs[k - 1]?).getD ⟨0, []⟩
theorem prev_succ {cs : List ConfV} {k : Nat} {c : ConfV} (h : cs[k]? = some c) : prevC cs (k + 1) = c := by simp [prevC, h]
def satF (f : Int → Int → Bool) (cs : List ConfV) : Int → Int → Bool := cs.foldl (fun f d => seatF f d.chain) f
theorem satF_snoc (f : Int → Int → Bool) {cs : List ConfV} {k : Nat} {c : ConfV} (h : cs[k]? = some c) : satF f (cs.take (k + 1)) = seatF (satF f (cs.take k)) c.chain := by
  unfold satF
  rw [List.take_add_one, h]
  simp
theorem Row.snoc {cs : List ConfV} (h : Row cs) {last c : ConfV} (hl : cs.getLast? = some last) (hc : rightC c = true) (hf : followsC last c = true) : Row (cs ++ [c]) := by
  refine ⟨fun d hd => ?_, fun k a b ha hb => ?_⟩
  · rcases List.mem_append.1 hd with hd | hd
    · exact h.1 d hd
    · rw [List.mem_singleton.1 hd]; exact hc
  · have hk := (List.getElem?_eq_some_iff.1 hb).1
    simp only [List.length_append, List.length_singleton] at hk
    rcases Nat.lt_or_ge (k + 1) cs.length with h1 | h1
    · rw [List.getElem?_append_left (by omega)] at ha hb
      exact h.2 k a b ha hb
    · have hkl : cs.length = k + 1 := by omega
      rw [List.getElem?_append_left (by omega)] at ha
      rw [List.getElem?_append_right (by omega), hkl] at hb
      simp at hb
      subst hb
      rw [List.getLast?_eq_getElem?, hkl] at hl
      rw [show k + 1 - 1 = k by omega, ha] at hl
      cases hl
      exact hf
/-- Who sits in a chain. -/
def Sits (c : ConfV) (n lf : Int) : Prop := ∃ q ∈ c.chain, q.node = n ∧ q.life = lf
theorem seatF_iff : ∀ (L : List SeatV) (f : Int → Int → Bool) (n lf : Int), seatF f L n lf = true ↔ f n lf = true ∨ ∃ q ∈ L, q.node = n ∧ q.life = lf
  | [], f, n, lf => by simp [seatF]
  | q :: L, f, n, lf => by
    have e0 : seatF f (q :: L) = seatF (updM f q.node q.life true) L := rfl
    rw [e0, seatF_iff L]
    by_cases e : n = q.node ∧ lf = q.life
    · obtain ⟨rfl, rfl⟩ := e
      rw [updM_same]
      simp
    · rw [updM_other _ _ e]
      constructor
      · rintro (h | ⟨t, ht, h⟩)
        · exact .inl h
        · exact .inr ⟨t, List.mem_cons_of_mem _ ht, h⟩
      · rintro (h | ⟨t, ht, h1, h2⟩)
        · exact .inl h
        · rcases List.mem_cons.1 ht with rfl | ht
          · exact absurd ⟨h1.symm, h2.symm⟩ e
          · exact .inr ⟨t, ht, h1, h2⟩
theorem satF_iff : ∀ (cs : List ConfV) (f : Int → Int → Bool) (n lf : Int), satF f cs n lf = true ↔ f n lf = true ∨ ∃ c ∈ cs, Sits c n lf
  | [], f, n, lf => by simp [satF]
  | c :: cs, f, n, lf => by
    have e0 : satF f (c :: cs) = satF (seatF f c.chain) cs := rfl
    rw [e0, satF_iff cs, seatF_iff]
    simp only [List.mem_cons, exists_eq_or_imp, Sits]
    exact or_assoc

/-- The law's setup: three nodes. -/
def set3 : SetV := ⟨3, 1, 4, 3, 5, 0, 0⟩

/-! ### what stands between a master, its log, and the chains that were written -/
structure Inv (s : SetV) (V : MstV) (l : List UInt8) (cs : List ConfV) : Prop where
  set : V.s = s
  row : Row cs
  last : cs.getLast? = some V.cf
  log : l = recs (cs.map encConf)
  len : l.length ≤ 65536
  sat : ∀ n lf, V.sat n lf = true ↔ ∃ c ∈ cs, Sits c n lf
section
variable {s : SetV} {V : MstV} {l : List UInt8} {cs : List ConfV}
theorem Inv.right (h : Inv s V l cs) : rightC V.cf = true := h.row.1 _ (List.mem_of_getLast? h.last)
theorem Inv.count (h : Inv s V l cs) : cs.length ≤ 65536 := by
  have h1 := mrecs_count (K := cs.map encConf)
  rw [List.length_map, ← h.log] at h1
  exact Nat.le_trans h1 h.len
theorem Inv.pos (h : Inv s V l cs) : 0 < cs.length := by
  cases cs with
  | nil => have := h.last; simp at this
  | cons c cs => simp
theorem Inv.scan (h : Inv s V l cs) : (scanS l).1 = cs.map encConf := by
  rw [h.log, scan_all _ (mrecs_small (by rw [← h.log]; exact h.len))]
theorem begin_inv (s : SetV) (hs : mayS s = true) : Inv s (beginM s (firstC s.nodes).1 s.base) (bytesS (encConf (firstC s.nodes).1)) [(firstC s.nodes).1] := by
  unfold mayS at hs
  rw [decide_eq_true_eq] at hs
  obtain ⟨L, hL, hr⟩ := first_right (n := s.nodes) hs.1 hs.2.1
  rw [hL]
  refine ⟨rfl, ⟨fun c hc => by rw [List.mem_singleton.1 hc]; exact hr, fun k a b ha hb => by simp at hb⟩, rfl, by simp [recs], ?_, fun n lf => ?_⟩
  · have := (conf_small hr).2
    simp only
    omega
  · show seatF (fun _ _ => false) L n lf = true ↔ _
    rw [seatF_iff]
    simp [Sits]
/-- What stays, apart from the chain, who sat, and the log, stands as ever. -/
theorem Inv.keep (h : Inv s V l cs) {V' : MstV} (h1 : V'.s = V.s) (h2 : V'.cf = V.cf) (h3 : V'.sat = V.sat) : Inv s V' l cs := ⟨h1.trans h.set, h.row, by rw [h2]; exact h.last, h.log, h.len, fun n lf => by rw [h3]; exact h.sat n lf⟩
/-- How a chain is turned. -/
def StepTo (V : MstV) (c : ConfV) : Prop := (∃ g, withoutC V.cf g = (c, 0)) ∨ (∃ q ∈ V.cf.chain, syncedC V.cf q.node q.life = (c, 0)) ∨ (∃ n lf, joinC V.cf n lf = (c, 0) ∧ V.sat n lf = false)
theorem wants_step {V : MstV} {now : Int} {c : ConfV} (h : wantsM V now = (c, true)) : StepTo V c := by
  rcases wants_cases h with h | h | ⟨n, _, h, h2⟩
  · exact .inl ⟨_, h⟩
  · exact .inr (.inl h)
  · exact .inr (.inr ⟨_, _, h, h2⟩)
theorem Inv.snoc (h : Inv s V l cs) {c : ConfV} {now : Int} (hw : wantsM V now = (c, true)) {V' : MstV} (h1 : V'.s = V.s) (h2 : V'.cf = c) (h3 : ∀ n lf, V'.sat n lf = true ↔ V.sat n lf = true ∨ Sits c n lf) {l' : List UInt8} (hl : l' = l ++ bytesS (encConf c)) (hlen : l'.length ≤ 65536) : Inv s V' l' (cs ++ [c]) := by
  refine ⟨h1.trans h.set, h.row.snoc h.last (wants_right hw) (wants_follows hw), by rw [h2]; simp, ?_, hlen, fun n lf => ?_⟩
  · rw [hl, h.log, List.map_append]
    exact (recs_snoc _ _).symm
  · rw [h3, h.sat]
    constructor
    · rintro (⟨d, hd, hs⟩ | hs)
      · exact ⟨d, List.mem_append_left _ hd, hs⟩
      · exact ⟨c, by simp, hs⟩
    · rintro ⟨d, hd, hs⟩
      rcases List.mem_append.1 hd with hd | hd
      · exact .inl ⟨d, hd, hs⟩
      · rw [List.mem_singleton.1 hd] at hs; exact .inr hs
/-- A turn: none is wanted, or it is written ahead, or the log is full. -/
theorem turn_cases (h : Inv s V l cs) (now : Int) :
    ((wantsM V now).2 = false ∧ turnM V l now = (noteM V now, l)) ∨
    (∃ c, wantsM V now = (c, true) ∧ turnM V l now = ({ noteM V now with cf := c, sat := seatF V.sat c.chain }, l ++ bytesS (encConf c)) ∧ (l ++ bytesS (encConf c)).length ≤ 65536) ∨
    (∃ c, wantsM V now = (c, true) ∧ turnM V l now = (noteM V now, l) ∧ 65000 < l.length) := by
  obtain ⟨c, q, hq⟩ : ∃ c q, wantsM V now = (c, q) := ⟨_, _, rfl⟩
  unfold turnM
  rw [wants_note, hq]
  cases q with
  | false => exact .inl ⟨rfl, rfl⟩
  | true =>
    right
    have hs := conf_small (wants_right hq)
    rw [if_pos rfl]
    rcases mwrite_cases l (encConf c) big with ⟨x, hx, hw, hl⟩ | ⟨_, hl, hw⟩
    · right
      refine ⟨c, rfl, ?_, by omega⟩
      show (if (writeS l false (encConf c) big).2 = 0 then _ else _) = _
      rw [hw, if_neg hx]
    · left
      rw [mkeep_all (by omega)] at hw
      refine ⟨c, rfl, ?_, by rw [List.length_append]; exact hl⟩
      show (if (writeS l false (encConf c) big).2 = 0 then _ else _) = _
      rw [hw, if_pos rfl]
/-- What a turn leaves. -/
structure Turned (s : SetV) (V : MstV) (l : List UInt8) (cs : List ConfV) (now : Int) (V' : MstV) (l' : List UInt8) (cs' : List ConfV) : Prop where
  inv : Inv s V' l' cs'
  step : (V'.cf = V.cf ∧ cs' = cs) ∨ (wantsM V now = (V'.cf, true) ∧ cs' = cs ++ [V'.cf])
  full : (wantsM V now).2 = true → V'.cf = V.cf → 65000 < l'.length
  til : V'.til = V.til
  held : V'.held = V.held
  lives : V'.lives = V.lives
  beats : V'.beats = V.beats
theorem turn_turned (h : Inv s V l cs) (now : Int) : ∃ cs', Turned s V l cs now (turnM V l now).1 (turnM V l now).2 cs' := by
  rcases turn_cases h now with ⟨h1, h2⟩ | ⟨c, h1, h2, h3⟩ | ⟨c, h1, h2, h3⟩
  · rw [h2]
    exact ⟨cs, h.keep rfl rfl rfl, .inl ⟨rfl, rfl⟩, (fun h3 => by rw [h1] at h3; cases h3), rfl, rfl, rfl, rfl⟩
  · rw [h2]
    exact ⟨cs ++ [c], h.snoc (V' := { noteM V now with cf := c, sat := seatF V.sat c.chain }) h1 rfl rfl (fun n lf => seatF_iff _ _ _ _) rfl h3, .inr ⟨h1, rfl⟩, fun _ h4 => absurd h4 (wants_other h1), rfl, rfl, rfl, rfl⟩
  · rw [h2]
    exact ⟨cs, h.keep rfl rfl rfl, .inl ⟨rfl, rfl⟩, fun _ _ => h3, rfl, rfl, rfl, rfl⟩
/-- What a fall leaves of the log, read again. -/
theorem fall_scan (h : Inv s V l cs) (keep now : Int) : ∃ cs' last, (scanS (fallL V l keep now)).1 = cs'.map encConf ∧ (fallL V l keep now).take (scanS (fallL V l keep now)).2 = recs (cs'.map encConf) ∧ (fallL V l keep now).length ≤ 65536 ∧ cs'.getLast? = some last ∧ Row cs' ∧
    ((last = V.cf ∧ cs' = cs) ∨ (wantsM V now = (last, true) ∧ cs' = cs ++ [last])) := by
  have hk := mrecs_small (K := cs.map encConf) (by rw [← h.log]; exact h.len)
  have base : (scanS l).1 = cs.map encConf ∧ l.take (scanS l).2 = recs (cs.map encConf) := by
    rw [h.log, scan_all _ hk]
    exact ⟨rfl, List.take_length⟩
  obtain ⟨c, q, hq⟩ : ∃ c q, wantsM V now = (c, q) := ⟨_, _, rfl⟩
  unfold fallL
  rw [hq]
  cases q with
  | false => exact ⟨cs, V.cf, base.1, base.2, h.len, h.last, h.row, .inl ⟨rfl, rfl⟩⟩
  | true =>
    rw [if_pos rfl]
    show ∃ cs' last, (scanS (writeS l false (encConf c) keep).1).1 = _ ∧ _
    have hlen := writeS_len (t := false) (s := encConf c) (keep := keep) h.len
    have hs := conf_small (wants_right hq)
    rcases mwrite_cases l (encConf c) keep with ⟨x, hx, hw, hl⟩ | ⟨_, hl, hw⟩
    · rw [hw]
      exact ⟨cs, V.cf, base.1, base.2, h.len, h.last, h.row, .inl ⟨rfl, rfl⟩⟩
    · rw [hw] at hlen ⊢
      simp only at hlen ⊢
      rcases mcrash_scan hk (s := encConf c) (j := keepS (encConf c) keep) (by omega) (keepS_le _ _) with ⟨h1, h2⟩ | h1
      · rw [← h.log] at h1 h2
        refine ⟨cs ++ [c], c, ?_, ?_, hlen, by simp, h.row.snoc h.last (wants_right hq) (wants_follows hq), .inr ⟨rfl, rfl⟩⟩
        · rw [h1, List.map_append]; rfl
        · rw [h1, h2, List.map_append]
          exact List.take_length
      · rw [← h.log] at h1
        refine ⟨cs, V.cf, by rw [h1], ?_, hlen, h.last, h.row, .inl ⟨rfl, rfl⟩⟩
        rw [h1, ← h.log]
        simp
theorem recover_inv {last : ConfV} (hr : Row cs) (hl : cs.getLast? = some last) (hlen : (recs (cs.map encConf)).length ≤ 65536) (now : Int) : Inv s (recoverM s cs last now) (recs (cs.map encConf)) cs := by
  refine ⟨rfl, hr, hl, rfl, hlen, fun n lf => ?_⟩
  show satF (seatF (fun _ _ => false) last.chain) cs n lf = true ↔ _
  rw [satF_iff, seatF_iff]
  constructor
  · rintro ((h | h) | h)
    · cases h
    · exact ⟨last, List.mem_of_getLast? hl, h⟩
    · exact h
  · exact fun h => .inr h
end
end Go.Proofs.YtomfmejodmfioaaGreat
