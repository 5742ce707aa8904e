/- Messages as bytes, in plain Lean: what is printed is read as it was; bytes that are a message are those that it is printed in. -/
import Derived.Test.YtnaabaahfjklhaaGreatWirePlain
namespace Go.Proofs.YtnaabaahfjklhaaGreat
open Go.RowKit Fld
set_option linter.unusedVariables false

/-- May a field be? -/
def okF (F : Fld) (M : MsgV) : Prop :=
  match F with
  | fO => mayOp M.op = true
  | fC => rightC M.cf = true
  | fX => M.fires.length ≤ 8
  | _ => True
theorem setF_encF {F G : Fld} (h : G ≠ F) (M A : MsgV) : encFld (setF G M A) F = encFld A F := by
  cases G <;> cases F <;> first | rfl | exact absurd rfl h
theorem setF_okF {F G : Fld} (h : G ≠ F) (M A : MsgV) : okF F (setF G M A) = okF F A := by
  cases G <;> cases F <;> first | rfl | exact absurd rfl h
theorem setF_setF {F G : Fld} (h : G ≠ F) (M X A : MsgV) : setF F (setF G M X) A = setF F X A := by
  cases G <;> cases F <;> first | rfl | exact absurd rfl h
theorem setF_kind (F : Fld) (M A : MsgV) : (setF F M A).kind = A.kind ∧ (setF F M A).dst = A.dst := by cases F <;> exact ⟨rfl, rfl⟩
def putF (R : List Fld) (M A : MsgV) : MsgV := R.foldl (fun A F => setF F M A) A
theorem putF_kind (R : List Fld) (M A : MsgV) : (putF R M A).kind = A.kind ∧ (putF R M A).dst = A.dst := by
  induction R generalizing A with
  | nil => exact ⟨rfl, rfl⟩
  | cons F R ih => exact ⟨(ih _).1.trans (setF_kind F M A).1, (ih _).2.trans (setF_kind F M A).2⟩
theorem putF_encF {R : List Fld} {F : Fld} (h : F ∉ R) (M A : MsgV) : encFld (putF R M A) F = encFld A F := by
  induction R generalizing A with
  | nil => rfl
  | cons G R ih =>
    rw [List.mem_cons, not_or] at h
    exact (ih h.2 _).trans (setF_encF (Ne.symm h.1) M A)
theorem putF_okF {R : List Fld} {F : Fld} (h : F ∉ R) (M A : MsgV) : okF F (putF R M A) = okF F A := by
  induction R generalizing A with
  | nil => rfl
  | cons G R ih =>
    rw [List.mem_cons, not_or] at h
    exact (ih h.2 _).trans (setF_okF (Ne.symm h.1) M A)
theorem putF_setF {R : List Fld} {F : Fld} (h : F ∉ R) (M X A : MsgV) : setF F (putF R M X) A = setF F X A := by
  induction R generalizing X with
  | nil => rfl
  | cons G R ih =>
    rw [List.mem_cons, not_or] at h
    exact (ih h.2 _).trans (setF_setF (Ne.symm h.1) M X A)
theorem onlyM_put (M : MsgV) : onlyM M = putF (fieldsOf M.kind) M { msgZero with kind := M.kind, dst := M.dst } := rfl
theorem fieldsOf_nodup (k : Int) : (fieldsOf k).Nodup := by
  unfold fieldsOf
  repeat' split
  all_goals decide
theorem fieldsOf_ne {k : Int} (h : fieldsOf k ≠ []) : 1 ≤ k ∧ k ≤ 15 := by
  unfold fieldsOf at h
  by_cases hk : 1 ≤ k ∧ k ≤ 15
  · exact hk
  · exfalso
    apply h
    repeat' rw [if_neg (by omega)]
theorem fieldsOf_some {k : Int} (h1 : 1 ≤ k) (h2 : k ≤ 15) : fieldsOf k ≠ [] := by
  have : k = 1 ∨ k = 2 ∨ k = 3 ∨ k = 4 ∨ k = 5 ∨ k = 6 ∨ k = 7 ∨ k = 8 ∨ k = 9 ∨ k = 10 ∨ k = 11 ∨ k = 12 ∨ k = 13 ∨ k = 14 ∨ k = 15 := by omega
  rcases this with rfl | rfl | rfl | rfl | rfl | rfl | rfl | rfl | rfl | rfl | rfl | rfl | rfl | rfl | rfl <;> decide
theorem fieldsOf_fO {k : Int} (h : k = 5 ∨ k = 7) : fO ∈ fieldsOf k := by rcases h with rfl | rfl <;> decide
theorem kinds {k : Int} (h1 : 1 ≤ k) (h2 : k ≤ 15) : k = 1 ∨ k = 2 ∨ k = 3 ∨ k = 4 ∨ k = 5 ∨ k = 6 ∨ k = 7 ∨ k = 8 ∨ k = 9 ∨ k = 10 ∨ k = 11 ∨ k = 12 ∨ k = 13 ∨ k = 14 ∨ k = 15 := by omega
theorem fieldsOf_fO' {k : Int} (h : fO ∈ fieldsOf k) : k = 5 ∨ k = 7 := by
  obtain ⟨h1, h2⟩ := fieldsOf_ne (List.ne_nil_of_mem h)
  rcases kinds h1 h2 with rfl | rfl | rfl | rfl | rfl | rfl | rfl | rfl | rfl | rfl | rfl | rfl | rfl | rfl | rfl <;> first | exact .inl rfl | exact .inr rfl | exact absurd h (by decide)
theorem fieldsOf_fC {k : Int} (h : k = 2) : fC ∈ fieldsOf k := by subst h; decide
theorem fieldsOf_fC' {k : Int} (h : fC ∈ fieldsOf k) : k = 2 := by
  obtain ⟨h1, h2⟩ := fieldsOf_ne (List.ne_nil_of_mem h)
  rcases kinds h1 h2 with rfl | rfl | rfl | rfl | rfl | rfl | rfl | rfl | rfl | rfl | rfl | rfl | rfl | rfl | rfl <;> first | rfl | exact absurd h (by decide)

theorem encI_cons (x : Int) (v : List Int) : encI (x :: v) = enc (zig x) ++ encI v := rfl
theorem encI_append (u v : List Int) : encI (u ++ v) = encI u ++ encI v := by simp [encI]
theorem rdIs_snoc (n : Nat) (l : List UInt8) (e : Int) : rdIs (n + 1) l e = ((rdIs n l e).1 ++ [zag (rdU (rdIs n l e).2.1 (rdIs n l e).2.2).1], (rdU (rdIs n l e).2.1 (rdIs n l e).2.2).2.1, (rdU (rdIs n l e).2.1 (rdIs n l e).2.2).2.2) := rfl
theorem rdIs_back : ∀ (n : Nat) {l l' : List UInt8} {e : Int} {v : List Int}, rdIs n l e = (v, l', 0) → e = 0 ∧ l = encI v ++ l'
  | 0, l, l', e, v, h => by
    simp only [rdIs, Prod.mk.injEq] at h
    obtain ⟨rfl, rfl, rfl⟩ := h
    exact ⟨rfl, rfl⟩
  | n + 1, l, l', e, v, h => by
    rw [rdIs_snoc] at h
    obtain ⟨v1, l1, e1, h1⟩ : ∃ v1 l1 e1, rdIs n l e = (v1, l1, e1) := ⟨_, _, _, rfl⟩
    rw [h1] at h
    simp only at h
    obtain ⟨m, l2, e2, h2⟩ : ∃ m l2 e2, rdU l1 e1 = (m, l2, e2) := ⟨_, _, _, rfl⟩
    rw [h2] at h
    simp only [Prod.mk.injEq] at h
    obtain ⟨rfl, rfl, rfl⟩ := h
    obtain ⟨rfl, hf, hl⟩ := rdU_back h2
    obtain ⟨rfl, hb⟩ := rdIs_back n h1
    exact ⟨rfl, by rw [hb, hl, encI_append, List.append_assoc, encI_cons, zig_zag _ hf]; simp [encI]⟩
theorem rdIs_enc (v : List Int) (h : ∀ x ∈ v, W64 x) (t : List UInt8) : ∀ k, k ≤ v.length → rdIs k (encI v ++ t) 0 = (v.take k, encI (v.drop k) ++ t, 0) := by
  intro k
  induction k with
  | zero => intro _; rfl
  | succ k ih =>
    intro hk
    rw [rdIs_snoc, ih (by omega)]
    simp only
    rw [List.drop_eq_getElem_cons (by omega : k < v.length), encI_cons, List.append_assoc, rdU_enc _ (zig_fit (h _ (List.getElem_mem (by omega)))), zag_zig, List.take_add_one, List.getElem?_eq_getElem (by omega)]
    rfl
theorem rdIs_all {v : List Int} (h : ∀ x ∈ v, W64 x) (t : List UInt8) {n : Nat} (hn : n = v.length) : rdIs n (encI v ++ t) 0 = (v, t, 0) := by
  subst hn
  rw [rdIs_enc v h t v.length (Nat.le_refl _), List.take_length, List.drop_length]
  rfl
theorem rdIs_fit (n : Nat) (l : List UInt8) (e : Int) : ∀ x ∈ (rdIs n l e).1, W64 x := by
  induction n with
  | zero => intro x hx; cases hx
  | succ n ih =>
    intro x hx
    rw [rdIs_snoc] at hx
    simp only [List.mem_append, List.mem_cons, List.not_mem_nil, or_false] at hx
    rcases hx with hx | rfl
    · exact ih x hx
    · exact zag_fit (rdU_fit _ _)
theorem rdIs_get (n : Nat) (l : List UInt8) (e : Int) (i : Nat) : W64 ((rdIs n l e).1.getD i 0) := by
  rw [List.getD_eq_getElem?_getD]
  cases h : (rdIs n l e).1[i]? with
  | none => exact W64.mk (by decide) (by decide)
  | some x => exact rdIs_fit n l e x (List.mem_of_getElem? h)
theorem list1 {l : List Int} (h : l.length = 1) : ∃ a, l = [a] := by
  match l, h with
  | [a], _ => exact ⟨a, rfl⟩
theorem list2 {l : List Int} (h : l.length = 2) : ∃ a b, l = [a, b] := by
  match l, h with
  | [a, b], _ => exact ⟨a, b, rfl⟩
theorem list3 {l : List Int} (h : l.length = 3) : ∃ a b c, l = [a, b, c] := by
  match l, h with
  | [a, b, c], _ => exact ⟨a, b, c, rfl⟩

/-- All fires' bytes. -/
def encX (L : List FireV) : List UInt8 := L.flatMap fun f => encI f.nums
theorem encX_cons (f : FireV) (L : List FireV) : encX (f :: L) = encI f.nums ++ encX L := rfl
theorem encX_append (L K : List FireV) : encX (L ++ K) = encX L ++ encX K := by simp [encX]
theorem rdFires_snoc (n : Nat) (l : List UInt8) (e : Int) : rdFires (n + 1) l e = ((rdFires n l e).1 ++ [fireOf (rdIs 6 (rdFires n l e).2.1 (rdFires n l e).2.2).1], (rdIs 6 (rdFires n l e).2.1 (rdFires n l e).2.2).2) := rfl
theorem rdFires_len (n : Nat) (l : List UInt8) (e : Int) : (rdFires n l e).1.length = n ∧ (rdFires n l e).2.1.length ≤ l.length := by
  induction n with
  | zero => exact ⟨rfl, Nat.le_refl _⟩
  | succ n ih => exact ⟨by rw [rdFires_snoc, List.length_append, ih.1]; rfl, Nat.le_trans (rdIs_short _ _ _) ih.2⟩
theorem rdFires_fit (n : Nat) (l : List UInt8) (e : Int) : ∀ f ∈ (rdFires n l e).1, ∀ x ∈ f.nums, W64 x := by
  induction n with
  | zero => intro f hf; cases hf
  | succ n ih =>
    intro f hf
    rw [rdFires_snoc] at hf
    simp only [List.mem_append, List.mem_cons, List.not_mem_nil, or_false] at hf
    rcases hf with hf | rfl
    · exact ih f hf
    · rw [nums_fireOf (rdIs_len _ _ _)]
      exact rdIs_fit _ _ _
theorem rdFires_back : ∀ (n : Nat) {l l' : List UInt8} {e : Int} {L : List FireV}, rdFires n l e = (L, l', 0) → e = 0 ∧ l = encX L ++ l' ∧ L.length = n
  | 0, l, l', e, L, h => by
    simp only [rdFires, Prod.mk.injEq] at h
    obtain ⟨rfl, rfl, rfl⟩ := h
    exact ⟨rfl, rfl, rfl⟩
  | n + 1, l, l', e, L, h => by
    rw [rdFires_snoc] at h
    obtain ⟨L1, l1, e1, h1⟩ : ∃ L1 l1 e1, rdFires n l e = (L1, l1, e1) := ⟨_, _, _, rfl⟩
    rw [h1] at h
    simp only at h
    have h6 := rdIs_len 6 l1 e1
    obtain ⟨v, l2, e2, h2⟩ : ∃ v l2 e2, rdIs 6 l1 e1 = (v, l2, e2) := ⟨_, _, _, rfl⟩
    rw [h2] at h h6
    simp only [Prod.mk.injEq] at h h6
    obtain ⟨rfl, rfl, rfl⟩ := h
    obtain ⟨rfl, hl⟩ := rdIs_back 6 h2
    obtain ⟨rfl, hb, hn⟩ := rdFires_back n h1
    refine ⟨rfl, ?_, by rw [List.length_append, hn]; rfl⟩
    rw [hb, hl, encX_append, List.append_assoc, encX_cons, nums_fireOf h6]
    simp [encX]
theorem rdFires_enc (L : List FireV) (h : ∀ f ∈ L, ∀ x ∈ f.nums, W64 x) (t : List UInt8) : ∀ k, k ≤ L.length → rdFires k (encX L ++ t) 0 = (L.take k, encX (L.drop k) ++ t, 0) := by
  intro k
  induction k with
  | zero => intro _; rfl
  | succ k ih =>
    intro hk
    rw [rdFires_snoc, ih (by omega)]
    simp only
    rw [List.drop_eq_getElem_cons (by omega : k < L.length), encX_cons, List.append_assoc, rdIs_all (v := (L[k]'(by omega)).nums) (h _ (List.getElem_mem (by omega))) (encX (L.drop (k + 1)) ++ t) (n := 6) rfl, fireOf_nums, List.take_add_one, List.getElem?_eq_getElem (by omega)]
    rfl
theorem rdFires_all {L : List FireV} (h : ∀ f ∈ L, ∀ x ∈ f.nums, W64 x) (t : List UInt8) : rdFires L.length (encX L ++ t) 0 = (L, t, 0) := by
  rw [rdFires_enc L h t L.length (Nat.le_refl _), List.take_length, List.drop_length]
  rfl
theorem rdB_byte (k : UInt8) (t : List UInt8) : rdB (k :: t) 0 = (k.toNat, t, 0) := by rw [rdB.eq_def, if_pos rfl]

/-- A field that is written is read as it was. -/
theorem rdFld_enc {M : MsgV} (hM : MOk M) (F : Fld) (hF : okF F M) (A : MsgV) (t : List UInt8) : rdFld F A (encFld M F ++ t) 0 = (setF F M A, t, 0) := by
  have hn := hM.nums
  simp only [List.mem_cons, List.not_mem_nil, or_false, forall_eq_or_imp, forall_eq] at hn
  obtain ⟨h0, h1, h2, h3, h4, h5, h6, h7, h8, h9, h10, h11, h12, h13, h14⟩ := hn
  cases F with
  | fF => simp only [rdFld, encFld, rdIs_all (v := [M.fn, M.fl]) (by simp [*]) t (n := 2) rfl]; rfl
  | fE => simp only [rdFld, encFld, rdIs_all (v := [M.ep]) (by simp [*]) t (n := 1) rfl]; rfl
  | fG =>
    simp only [rdFld, encFld, List.cons_append, List.nil_append, rdB_byte]
    cases hb : M.flag <;> simp [flagB, setF, hb]
  | fS => simp only [rdFld, encFld, rdIs_all (v := [M.seq]) (by simp [*]) t (n := 1) rfl]; rfl
  | fC => simp only [rdFld, encFld, takeC_enc hF t]; rfl
  | fU => simp only [rdFld, encFld, rdIs_all (v := [M.un]) (by simp [*]) t (n := 1) rfl]; rfl
  | fL => simp only [rdFld, encFld, rdIs_all (v := [M.life]) (by simp [*]) t (n := 1) rfl]; rfl
  | fO => simp only [rdFld, encFld, take_enc hM.op hF t]; rfl
  | fQ => simp only [rdFld, encFld, rdIs_all (v := [M.req]) (by simp [*]) t (n := 1) rfl]; rfl
  | fR => simp only [rdFld, encFld, rdIs_all (v := [M.re, M.rg, M.rd]) (by simp [*]) t (n := 3) rfl]; rfl
  | fI => simp only [rdFld, encFld, rdIs_all (v := [M.id]) (by simp [*]) t (n := 1) rfl]; rfl
  | fT => simp only [rdFld, encFld, rdIs_all (v := [M.cl]) (by simp [*]) t (n := 1) rfl]; rfl
  | fX =>
    have hF : M.fires.length ≤ 8 := hF
    have hu : rdU (enc M.fires.length ++ (encX M.fires ++ t)) 0 = (M.fires.length, encX M.fires ++ t, 0) := rdU_enc _ (by unfold F64; omega) _
    have hx := rdFires_all hM.fires t
    simp only [rdFld, encFld, List.append_assoc]
    change (if 8 < (rdU (enc M.fires.length ++ (encX M.fires ++ t)) 0).1 then _ else ({ A with fires := (rdFires (rdU (enc M.fires.length ++ (encX M.fires ++ t)) 0).1 (rdU (enc M.fires.length ++ (encX M.fires ++ t)) 0).2.1 (rdU (enc M.fires.length ++ (encX M.fires ++ t)) 0).2.2).1 }, (rdFires (rdU (enc M.fires.length ++ (encX M.fires ++ t)) 0).1 (rdU (enc M.fires.length ++ (encX M.fires ++ t)) 0).2.1 (rdU (enc M.fires.length ++ (encX M.fires ++ t)) 0).2.2).2) : MsgV × List UInt8 × Int) = _
    rw [hu]
    simp only [hx, if_neg (show ¬ 8 < M.fires.length by omega)]
    rfl
theorem rdFlds_enc {M : MsgV} (hM : MOk M) (R : List Fld) (hR : ∀ F ∈ R, okF F M) (A : MsgV) (t : List UInt8) : rdFlds R A (R.flatMap (encFld M) ++ t) 0 = (putF R M A, t, 0) := by
  induction R generalizing A with
  | nil => rfl
  | cons F R ih =>
    have h := rdFld_enc hM F (hR F (by simp)) A (R.flatMap (encFld M) ++ t)
    rw [rdFlds, List.flatMap_cons, List.append_assoc, h]
    exact ih (fun G hG => hR G (by simp [hG])) _
/-- Bytes of which a field was read are the field's. -/
theorem rdFld_back {F : Fld} {A B : MsgV} {l l' : List UInt8} {e : Int} (h : rdFld F A l e = (B, l', 0)) : e = 0 ∧ B = setF F B A ∧ l = encFld B F ++ l' ∧ okF F B := by
  have ints : ∀ (n : Nat) (g : List Int → MsgV), (g (rdIs n l e).1, (rdIs n l e).2) = (B, l', 0) → ∃ v, v.length = n ∧ B = g v ∧ e = 0 ∧ l = encI v ++ l' := by
    intro n g h
    have hl := rdIs_len n l e
    obtain ⟨v, l1, e1, h1⟩ : ∃ v l1 e1, rdIs n l e = (v, l1, e1) := ⟨_, _, _, rfl⟩
    rw [h1] at h hl
    simp only [Prod.mk.injEq] at h hl
    obtain ⟨rfl, rfl, rfl⟩ := h
    obtain ⟨rfl, hb⟩ := rdIs_back n h1
    exact ⟨v, hl, rfl, rfl, hb⟩
  cases F with
  | fF =>
    obtain ⟨v, hv, rfl, rfl, rfl⟩ := ints 2 (fun v => { A with fn := v.getD 0 0, fl := v.getD 1 0 }) h
    obtain ⟨a, b, rfl⟩ := list2 hv
    exact ⟨rfl, rfl, rfl, trivial⟩
  | fE =>
    obtain ⟨v, hv, rfl, rfl, rfl⟩ := ints 1 (fun v => { A with ep := v.getD 0 0 }) h
    obtain ⟨a, rfl⟩ := list1 hv
    exact ⟨rfl, rfl, rfl, trivial⟩
  | fG =>
    simp only [rdFld] at h
    obtain ⟨b, l1, e1, h1⟩ : ∃ b l1 e1, rdB l e = (b, l1, e1) := ⟨_, _, _, rfl⟩
    rw [h1] at h
    simp only [Prod.mk.injEq] at h
    obtain ⟨rfl, rfl, h3⟩ := h
    split at h3
    · exfalso
      unfold fst_ at h3
      split at h3 <;> omega
    · subst h3
      obtain ⟨rfl, hb⟩ := rdB_back h1
      refine ⟨rfl, rfl, ?_, trivial⟩
      have hn : b = 0 ∨ b = 1 := by omega
      rw [hb]
      rcases hn with rfl | rfl <;> rfl
  | fS =>
    obtain ⟨v, hv, rfl, rfl, rfl⟩ := ints 1 (fun v => { A with seq := v.getD 0 0 }) h
    obtain ⟨a, rfl⟩ := list1 hv
    exact ⟨rfl, rfl, rfl, trivial⟩
  | fC =>
    simp only [rdFld] at h
    obtain ⟨c, l1, e1, h1⟩ : ∃ c l1 e1, takeC l e = (c, l1, e1) := ⟨_, _, _, rfl⟩
    rw [h1] at h
    simp only [Prod.mk.injEq] at h
    obtain ⟨rfl, rfl, rfl⟩ := h
    obtain ⟨rfl, hr, hb⟩ := takeC_back h1
    exact ⟨rfl, rfl, hb, hr⟩
  | fU =>
    obtain ⟨v, hv, rfl, rfl, rfl⟩ := ints 1 (fun v => { A with un := v.getD 0 0 }) h
    obtain ⟨a, rfl⟩ := list1 hv
    exact ⟨rfl, rfl, rfl, trivial⟩
  | fL =>
    obtain ⟨v, hv, rfl, rfl, rfl⟩ := ints 1 (fun v => { A with life := v.getD 0 0 }) h
    obtain ⟨a, rfl⟩ := list1 hv
    exact ⟨rfl, rfl, rfl, trivial⟩
  | fO =>
    simp only [rdFld] at h
    obtain ⟨c, l1, e1, h1⟩ : ∃ c l1 e1, takeOp l e = (c, l1, e1) := ⟨_, _, _, rfl⟩
    rw [h1] at h
    simp only [Prod.mk.injEq] at h
    obtain ⟨rfl, rfl, rfl⟩ := h
    obtain ⟨rfl, hr, hb⟩ := take_back h1
    exact ⟨rfl, rfl, hb, hr⟩
  | fQ =>
    obtain ⟨v, hv, rfl, rfl, rfl⟩ := ints 1 (fun v => { A with req := v.getD 0 0 }) h
    obtain ⟨a, rfl⟩ := list1 hv
    exact ⟨rfl, rfl, rfl, trivial⟩
  | fR =>
    obtain ⟨v, hv, rfl, rfl, rfl⟩ := ints 3 (fun v => { A with re := v.getD 0 0, rg := v.getD 1 0, rd := v.getD 2 0 }) h
    obtain ⟨a, b, c, rfl⟩ := list3 hv
    exact ⟨rfl, rfl, rfl, trivial⟩
  | fI =>
    obtain ⟨v, hv, rfl, rfl, rfl⟩ := ints 1 (fun v => { A with id := v.getD 0 0 }) h
    obtain ⟨a, rfl⟩ := list1 hv
    exact ⟨rfl, rfl, rfl, trivial⟩
  | fT =>
    obtain ⟨v, hv, rfl, rfl, rfl⟩ := ints 1 (fun v => { A with cl := v.getD 0 0 }) h
    obtain ⟨a, rfl⟩ := list1 hv
    exact ⟨rfl, rfl, rfl, trivial⟩
  | fX =>
    simp only [rdFld] at h
    obtain ⟨n, l1, e1, h1⟩ : ∃ n l1 e1, rdU l e = (n, l1, e1) := ⟨_, _, _, rfl⟩
    rw [h1] at h
    simp only at h
    split at h
    · exfalso
      simp only [Prod.mk.injEq] at h
      have h3 := h.2.2
      unfold fst_ at h3
      split at h3 <;> omega
    · rename_i hn
      obtain ⟨L, l2, e2, h2⟩ : ∃ L l2 e2, rdFires n l1 e1 = (L, l2, e2) := ⟨_, _, _, rfl⟩
      rw [h2] at h
      simp only [Prod.mk.injEq] at h
      obtain ⟨rfl, rfl, rfl⟩ := h
      obtain ⟨rfl, hb, hL⟩ := rdFires_back n h2
      obtain ⟨rfl, hf, hu⟩ := rdU_back h1
      refine ⟨rfl, rfl, ?_, ?_⟩
      · rw [hu, hb, ← hL, ← List.append_assoc]
        rfl
      · show L.length ≤ 8
        omega
theorem rdFlds_back {R : List Fld} (hn : R.Nodup) {A M : MsgV} {l l' : List UInt8} {e : Int} (h : rdFlds R A l e = (M, l', 0)) : e = 0 ∧ M = putF R M A ∧ l = R.flatMap (encFld M) ++ l' ∧ ∀ F ∈ R, okF F M := by
  induction R generalizing A l e with
  | nil =>
    simp only [rdFlds, Prod.mk.injEq] at h
    obtain ⟨rfl, rfl, rfl⟩ := h
    exact ⟨rfl, rfl, rfl, by simp⟩
  | cons F R ih =>
    rw [List.nodup_cons] at hn
    rw [rdFlds] at h
    obtain ⟨B, l1, e1, h1⟩ : ∃ B l1 e1, rdFld F A l e = (B, l1, e1) := ⟨_, _, _, rfl⟩
    rw [h1] at h
    obtain ⟨rfl, hM, hl, hok⟩ := ih hn.2 h
    obtain ⟨rfl, hB, hl1, hok1⟩ := rdFld_back h1
    have e1 : encFld M F = encFld B F := by rw [hM]; exact putF_encF hn.1 M B
    have e2 : okF F M = okF F B := by rw [hM]; exact putF_okF hn.1 M B
    have e3 : setF F M A = setF F B A := by
      have := putF_setF hn.1 M B A
      rw [← hM] at this
      exact this
    refine ⟨rfl, ?_, ?_, ?_⟩
    · show M = putF R M (setF F M A)
      rw [e3, ← hB]
      exact hM
    · rw [List.flatMap_cons, e1, List.append_assoc, ← hl]
      exact hl1
    · intro G hG
      rw [List.mem_cons] at hG
      rcases hG with rfl | hG
      · rw [e2]; exact hok1
      · exact hok G hG

theorem kindB_nat {k : Int} (h1 : 0 ≤ k) (h2 : k ≤ 255) : (((kindB k).toNat : Nat) : Int) = k := by
  have : (kindB k).toNat = k.toNat := by
    unfold kindB
    rw [Int.emod_eq_of_lt h1 (by omega)]
    simp only [UInt8.toNat_ofNat']
    omega
  rw [this]
  omega
theorem rdHead_enc {k d : Int} (h1 : 0 ≤ k) (h2 : k ≤ 255) (hd : W64 d) (t : List UInt8) : rdHead (kindB k :: (encI [d] ++ t)) = ({ msgZero with kind := k, dst := d }, t, 0) := by
  unfold rdHead
  rw [rdB_byte]
  simp only [rdIs_all (v := [d]) (by simp [hd]) t (n := 1) rfl, kindB_nat h1 h2]
  rfl
theorem mayW_ok {M : MsgV} (h : mayW M = true) : ∀ F ∈ fieldsOf M.kind, okF F M := by
  obtain ⟨h1, h2, h3, h4, h5, h6⟩ := mayW_iff.1 h
  intro F hF
  cases F with
  | fO => exact h5 (fieldsOf_fO' hF)
  | fC => exact h6 (fieldsOf_fC' hF)
  | fX => exact h4
  | _ => trivial
/-- What is printed is read as it was. -/
theorem rdText_enc {M : MsgV} (hM : MOk M) (h : mayW M = true) : rdText (textOf M) = (M, [], 0) ∧ (rdHead (textOf M)).1.kind = M.kind := by
  obtain ⟨h1, h2, h3, h4, h5, h6⟩ := mayW_iff.1 h
  have hh := rdHead_enc (k := M.kind) (d := M.dst) (by omega) (by omega) (hM.nums _ (by simp)) ((fieldsOf M.kind).flatMap (encFld M))
  unfold rdText textOf
  rw [hh]
  refine ⟨?_, rfl⟩
  have := rdFlds_enc hM (fieldsOf M.kind) (mayW_ok h) { msgZero with kind := M.kind, dst := M.dst } []
  rw [List.append_nil] at this
  rw [this, ← onlyM_put, ← h3]
theorem wholeOf_fr (l : List UInt8) : wholeOf (frame l) = l := by
  rw [wholeOf, if_pos (whole_frame l), frame_take]
theorem msg_print {M : MsgV} (hM : MOk M) (h : mayW M = true) : rawM (frame (textOf M)) = (M, true) := by
  obtain ⟨h1, h2⟩ := rdText_enc hM h
  have h3 := mayW_iff.1 h
  unfold rawM
  rw [if_pos (whole_frame _), wholeOf_fr, h1, h2]
  simp [fieldsOf_some h3.1 h3.2.1]
theorem frame_whole {s : List UInt8} (h : whole s = true) : frame (wholeOf s) = s := by
  rw [wholeOf, if_pos h]
  unfold whole at h
  simp only [Bool.and_eq_true, decide_eq_true_eq] at h
  exact h.2
/-- Bytes of which a message was read are those that it is printed in. -/
theorem msg_back {s : List UInt8} {M : MsgV} (h : rawM s = (M, true)) : mayW M = true ∧ s = frame (textOf M) := by
  unfold rawM at h
  split at h
  · rename_i hw
    simp only [Prod.mk.injEq, Bool.and_eq_true, decide_eq_true_eq] at h
    obtain ⟨hM, hne, he, hl⟩ := h
    have hk := fieldsOf_ne hne
    generalize ht : wholeOf s = t at *
    unfold rdText at hM he hl
    obtain ⟨b, l1, e1, h1⟩ : ∃ b l1 e1, rdB t 0 = (b, l1, e1) := ⟨_, _, _, rfl⟩
    have h2l := rdIs_len 1 l1 e1
    obtain ⟨v, l2, e2, h2⟩ : ∃ v l2 e2, rdIs 1 l1 e1 = (v, l2, e2) := ⟨_, _, _, rfl⟩
    rw [h2] at h2l
    obtain ⟨d, rfl⟩ := list1 h2l
    have hh : rdHead t = ({ msgZero with kind := (b : Int), dst := d }, l2, e2) := by
      unfold rdHead
      rw [h1]
      simp only
      rw [h2]
      rfl
    rw [hh] at hM he hl hk
    simp only at hM he hl hk
    have hr : rdFlds (fieldsOf b) { msgZero with kind := (b : Int), dst := d } l2 e2 = (M, [], 0) := Prod.ext hM (Prod.ext hl he)
    obtain ⟨rfl, hput, hl2, hok⟩ := rdFlds_back (fieldsOf_nodup _) hr
    obtain ⟨rfl, hi⟩ := rdIs_back 1 h2
    obtain ⟨_, hb⟩ := rdB_back h1
    have hMk : M.kind = b ∧ M.dst = d := by
      have := putF_kind (fieldsOf b) M { msgZero with kind := (b : Int), dst := d }
      rw [← hput] at this
      exact this
    obtain ⟨hMk, rfl⟩ := hMk
    rw [← hMk] at hput hok hk hl2
    have hfires : M.fires.length ≤ 8 := by
      by_cases hx : fX ∈ fieldsOf M.kind
      · exact hok _ hx
      · have := putF_okF hx M { msgZero with kind := M.kind, dst := M.dst }
        rw [← hput] at this
        have h0 : okF fX M := by rw [this]; show ([] : List FireV).length ≤ 8; decide
        exact h0
    refine ⟨mayW_iff.2 ⟨hk.1, hk.2, hput, hfires, fun h => hok _ (fieldsOf_fO h), fun h => hok _ (fieldsOf_fC h)⟩, ?_⟩
    rw [← frame_whole hw, ht]
    congr 1
    rw [hb, hi, hl2, List.append_nil, textOf]
    congr 1
    unfold kindB
    rw [hMk, Int.emod_eq_of_lt (by omega) (by omega)]
    rfl
  · simp at h
theorem mayW_zero : mayW msgZero = false := by decide
theorem textOf_inj {M K : MsgV} (hM : MOk M) (hK : MOk K) (h1 : mayW M = true) (h2 : mayW K = true) (h : frame (textOf M) = frame (textOf K)) : M = K := by
  have a := msg_print hM h1
  have b := msg_print hK h2
  rw [h, b] at a
  simp only [Prod.mk.injEq, and_true] at a
  exact a.symm
end Go.Proofs.YtnaabaahfjklhaaGreat
