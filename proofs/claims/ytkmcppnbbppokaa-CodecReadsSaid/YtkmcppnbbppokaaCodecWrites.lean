/- CodecWrites: for every number, number with a sign, and text the law answers true. No condition. -/
import Derived.Test.YtkmcppnbbppokaaCodecAwake
namespace Go.Proofs.Ytkmcppnbbppokaa
open Go.RowKit Go.ChangeShapes Go.WideShapes Go.Joins
open Go.ChangeMaps (open_string shut_string)
set_option linter.unusedVariables false

set_option maxRecDepth 10000 in
set_option maxHeartbeats 1000000 in
theorem CodecWrites_walk' (n : Nat) (i : Int) (l : List UInt8) (w : World) (hn : F64 n) (hi : W64 i) (hl : l.length ≤ maxLen) :
    Calls Try.prog 3 #[.int .u64 n, .int .i64 i, .string ⟨l.toArray⟩] w fun e w' => e = .returned (.bool true) ∧ Below w.heap.size w w' := by
  unfold maxLen at hl
  go_enter Try.func3, Try.ntmps3
  go_wp2_with fail
  refine (awake_any _).mono ?_
  rintro e w1 ⟨rfl, b1⟩
  go_wp2_with fail
  refine (cuint_any n hn _).mono ?_
  rintro e w2 ⟨rfl, b2⟩
  go_wp2_with fail
  refine (quint_any n hn _).mono ?_
  rintro e w3 ⟨rfl, b3⟩
  go_wp2_with fail
  refine (cint_any i hi _).mono ?_
  rintro e w4 ⟨rfl, b4⟩
  go_wp2_with fail
  refine (qint_any i hi _).mono ?_
  rintro e w5 ⟨rfl, b5⟩
  have hb2 := b1.trans (b2.mono b1.size)
  have hb3 := hb2.trans (b3.mono hb2.size)
  have hb4 := hb3.trans (b4.mono hb3.size)
  have hb5 := hb4.trans (b5.mono hb4.size)
  clear b1 b2 b3 b4 b5 hb2 hb3 hb4
  by_cases h : 1000 < l.length
  · go_wp2_with fail
    go_ret
    exact ⟨rfl, hb5⟩
  · go_wp2_with fail
    refine (cstr_any l (by omega) _).mono ?_
    rintro e w6 ⟨rfl, b6⟩
    go_wp2_with fail
    refine (qstr_any l (by omega) _).mono ?_
    rintro e w7 ⟨rfl, b7⟩
    have hb6 := hb5.trans (b6.mono hb5.size)
    have hb7 := hb6.trans (b7.mono hb6.size)
    clear b6 b7 hb5 hb6
    go_wp2_with fail
    go_ret
    exact ⟨rfl, hb7⟩

theorem u64_nat {x : Int} (h : (Lit.int .u64 x).wf = true) : ∃ n : Nat, x = n ∧ F64 n := by
  have : 0 ≤ x ∧ x ≤ 18446744073709551615 := by simpa [Lit.wf, IntKind.min, IntKind.max, IntKind.signed, IntKind.bits] using h
  exact ⟨x.toNat, by omega, by unfold F64; omega⟩
theorem str_list (s : ByteArray) : ∃ l : List UInt8, s = ⟨l.toArray⟩ ∧ s.size = l.length := ⟨s.data.toList, by cases s; rfl, Array.length_toList.symm⟩

theorem CodecWrites_walk (n i : Int) (s : ByteArray) (w : World) (hn : (Lit.int .u64 n).wf = true) (hi : W64 i) (hs : s.size ≤ maxLen) :
    Calls Try.prog 3 #[.int .u64 n, .int .i64 i, .string s] w fun e w' => e = .returned (.bool true) ∧ Below w.heap.size w w' := by
  obtain ⟨m, rfl, hm⟩ := u64_nat hn
  obtain ⟨l, rfl, hl⟩ := str_list s
  exact CodecWrites_walk' m i l w hm hi (by omega)


theorem CodecWrites_calls (H : Type) (enc : TypeId × Value → H) (W : World) (base : Nat) (args : Array Value) (ds gs : List (DataW H)) (before : List MemPlace)
    (hval : ∀ (j : Nat) t v, Try.f3.params[j]? = some t → args[j]? = some v → Value.okWide Try.prog W .any base t v)
    (hW : DataW.Whole enc Try.prog Try.f3.params.toList Rows.codecWritesSpec.vars false W args.toList ds gs before) :
    Calls Try.prog 3 args W fun e W' => e = .returned (.bool true) ∧ Below W.heap.size W W' := by
  obtain ⟨p, q, hA, hV, rfl, hfz, hnd⟩ := hW
  rw [Try.params3] at hA hval
  obtain ⟨v0, vs0, d0, ds0, p0, q0, hargs, rfl, rfl, h0, r0⟩ := trodAll_cons hA
  obtain ⟨v1, vs1, d1, ds1, p1, q1, rfl, rfl, rfl, h1, r1⟩ := trodAll_cons r0
  obtain ⟨v2, vs2, d2, ds2, p2, q2, rfl, rfl, rfl, h2, r2⟩ := trodAll_cons r1
  obtain ⟨rfl, rfl, rfl⟩ := trodAll_nil r2
  obtain rfl : args = #[v0, v1, v2] := Array.toList_inj.1 hargs
  obtain ⟨x0, rfl, rfl, rfl, w0⟩ := open_int Try.underlying22 (hval 0 22 v0 rfl rfl) h0
  obtain ⟨x1, rfl, rfl, rfl, w1⟩ := open_int Try.underlying3 (hval 1 3 v1 rfl rfl) h1
  obtain ⟨x2, rfl, rfl, rfl, w2⟩ := open_string Try.underlying9 (hval 2 9 v2 rfl rfl) h2
  exact CodecWrites_walk x0 x1 x2 W w0 w1 w2

set_option maxRecDepth 100000 in
theorem CodecWrites_lifted (os : Os) (started : os.Started) (H : Type) (enc : TypeId × Value → H) :
    ReturnsInHanded {} Try.checked os 3 .any (Rows.codecWritesSpec.pre6 enc Try.prog Try.f3 Rows.codecWritesRow.domain false) (Rows.codecWritesSpec.post enc Try.prog Try.f3 false true false false) := by
  refine returnsInHanded_of_change (C := Try.checked) own started (by kernel_rfl) Try.func3
    (ChangeSpec.witness6 (enc := enc) (C := Try.checked) false ⟨#[], #[.int .u64 0, .int .i64 0, .string ByteArray.empty], []⟩ 8 (by kernel_rfl) (by kernel_rfl) (by kernel_rfl) (by kernel_rfl)) ?_
  intro W base args ds gs before hval0 hW hcnd _
  have hval : ∀ (j : Nat) t v, Try.f3.params[j]? = some t → args[j]? = some v → Value.okWide Try.prog W .any base t v := hval0
  refine (CodecWrites_calls H enc W base args ds gs before hval hW).mono fun e W' ⟨he, bel⟩ => ?_
  exact ⟨_, he, law_post (ts := [22, 3, 9]) (by rw [Try.params3]) (by intro t ht; simp only [List.mem_cons, List.not_mem_nil, or_false] at ht; rcases ht with rfl | rfl | rfl <;> exact ⟨by kernel_rfl, of_decide_eq_true (by kernel_rfl)⟩) hW rfl
    (fun ds h => by match ds, h with | [_, _, _], _ => rfl) (by kernel_rfl) bel⟩

theorem CodecWrites_over : Rows.codecWritesRow.holds Try.pinned (OpenSpec.ofChange Rows.codecWritesSpec) :=
  OpenClaim.holds_of_wide 3 Try.f3 rfl rfl rfl rfl rfl rfl rfl ⟨rfl, rfl, rfl, rfl, rfl⟩ rfl rfl rfl rfl rfl (by kernel_rfl) Try.func3 (by kernel_rfl)
    (of_decide_eq_true (by kernel_rfl)) (by unfold Func.isWrapper; first | (rw [if_pos (by decide +kernel)]; kernel_rfl) | (rw [if_neg (by decide +kernel)]; exact ⟨rfl, rfl⟩))
    (fun os started H enc _ => CodecWrites_lifted os started H enc)

/-- The statement. -/
theorem CodecWrites_proved : Rows.CodecWritesSaid := CodecWrites_over

end Go.Proofs.Ytkmcppnbbppokaa
