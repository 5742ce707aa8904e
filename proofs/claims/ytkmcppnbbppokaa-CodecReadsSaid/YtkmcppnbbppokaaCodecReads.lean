/- CodecReads: for every bytes and script the law answers true. No condition. -/
import Derived.Test.YtkmcppnbbppokaaCodecRefEnd
import Derived.Test.YtkmcppnbbppokaaCodecFails
import Derived.Deep.RegionHeld3
namespace Go.Proofs.Ytkmcppnbbppokaa
open Go.RowKit Go.ChangeShapes Go.WideShapes Go.Joins Go.Deep
open Go.ChangeMaps (open_string shut_string)
set_option linter.unusedVariables false

theorem RdAt.drew {w : World} {b : Nat} {l : List UInt8} {e : Int} (h : RdAt w b l e) : RdAt w.drew b l e := h
theorem RdAt.drewN {w : World} {b : Nat} {l : List UInt8} {e : Int} (h : RdAt w b l e) (n : Nat) : RdAt (w.drewN n) b l e := h
theorem RdAt.grown {w w' : World} {b c : Nat} {l : List UInt8} {e : Int} (h : RdAt w b l e) (hg : w.grownBy w' (some c)) (hne : b ≠ c) : RdAt w' b l e := (hg.block _ h.lt (by simpa using hne)).trans h
theorem RfAt.grown {w w' : World} {b c : Nat} {S : List UInt8} {a : Nat} {e : Int} (h : RfAt w b S a e) (hg : w.grownBy w' (some c)) (hne : b ≠ c) : RfAt w' b S a e := (hg.block _ h.lt (by simpa using hne)).trans h
theorem quiet_left {P : Program} {f : FuncId} {args : Array Value} {w : World} {n : Nat} {v : Value}
    (h : Calls P f args (w.drewN n) fun e w' => e = .returned v ∧ w.drewN n = w') : Calls P f args (w.drewN n) fun e w'' => e = .returned v ∧ ∃ m, w'' = w.drewN m :=
  h.mono fun _ _ ⟨he, hm⟩ => ⟨he, n, hm.symm⟩
theorem below_drewN {n : Nat} {w w' : World} (h : Below n w w') (k : Nat) : Below n w (w'.drewN k) := ⟨h.os, h.tape, h.output, h.size, h.block⟩

set_option maxRecDepth 100000 in
set_option maxHeartbeats 1000000 in
theorem CodecReads_out (l : List UInt8) (a : Option Addr) (len cap : Nat) (w : World) (hl : l.length ≤ maxLen) (hlen : len ≤ maxLen) (h : 1000 < l.length ∨ 100 < len) :
    Calls Try.prog 4 #[.string ⟨l.toArray⟩, .slice a len cap] w fun e w' => e = .returned (.bool true) ∧ Below w.heap.size w w' := by
  unfold maxLen at hl hlen
  by_cases h1 : 1000 < l.length
  · clear h
    go_enter Try.func4, Try.ntmps4
    go_wp2_with fail
    refine (awake_any _).mono ?_
    rintro e w1 ⟨rfl, b1⟩
    go_wp2_with fail
    refine (awake_any _).mono ?_
    rintro e w2 ⟨rfl, b2⟩
    have hb2 := b1.trans (b2.mono b1.size)
    go_wp2_with fail
    go_ret
    exact ⟨rfl, hb2⟩
  · have h2 : 100 < len := by omega
    clear h
    go_enter Try.func4, Try.ntmps4
    go_wp2_with fail
    refine (awake_any _).mono ?_
    rintro e w1 ⟨rfl, b1⟩
    go_wp2_with fail
    refine (awake_any _).mono ?_
    rintro e w2 ⟨rfl, b2⟩
    have hb2 := b1.trans (b2.mono b1.size)
    go_wp2_with fail
    go_ret
    exact ⟨rfl, hb2⟩

set_option maxRecDepth 100000 in
set_option maxHeartbeats 1000000 in
theorem CodecReads_in (l : List UInt8) (a : Option Addr) (len cap : Nat) (w : World) (hl : l.length ≤ 1000) (hlen : len ≤ 100) (hrow : OpRow w a len) :
    Calls Try.prog 4 #[.string ⟨l.toArray⟩, .slice a len cap] w fun e w' => e = .returned (.bool true) ∧ Below w.heap.size w w' := by
  obtain ⟨_, hcells⟩ := hrow
  go_enter Try.func4, Try.ntmps4
  go_wp2_with fail
  refine (awake_any _).mono ?_
  rintro e w1 ⟨rfl, b1⟩
  go_wp2_with fail
  refine (read_any _ _).mono ?_
  rintro e w2 ⟨b, rfl, hR, hb, b2⟩
  have hb2 := b1.trans (b2.mono b1.size)
  have hbw : w.heap.size ≤ b := Nat.le_trans b1.size hb
  clear b1 b2 hb
  go_wp2_with fail
  have hF0 : RfAt (w2.alloc (.cells #[.string ⟨l.toArray⟩, .int .i64 0, .int .i64 0] 33)) w2.heap.size l 0 0 := heap_alloc_new _ _
  have hR0 := hR.below ((Below.refl _ _).alloc (Nat.le_refl _) (.cells #[.string ⟨l.toArray⟩, .int .i64 0, .int .i64 0] 33))
  have hb3 := hb2.alloc hb2.size (.cells #[.string ⟨l.toArray⟩, .int .i64 0, .int .i64 0] 33)
  have hcw : w.heap.size ≤ w2.heap.size := hb2.size
  have hbc : b ≠ w2.heap.size := by have := hR.lt; omega
  clear hR hb2
  generalize w2.alloc (.cells #[.string ⟨l.toArray⟩, .int .i64 0, .int .i64 0] 33) = w3 at *
  generalize w2.heap.size = c at *
  go_loopw [30] (fun i wr => ∃ k a : Nat, ∃ e : Int, k ≤ len ∧ i = .int .i64 k ∧ a ≤ l.length ∧ RdAt wr b (l.drop a) e ∧ RfAt wr c l a e ∧ Below w.heap.size w wr) (fun i _ => len - (intOf i).toNat)
  case atStart => exact ⟨0, 0, 0, Nat.zero_le _, rfl, Nat.zero_le _, hR0, hF0, hb3⟩
  case round =>
    obtain ⟨k, a, er, hk, rfl, ha, hR, hF, hbk⟩ := hrel
    clear hR0 hF0 hb3
    by_cases hlt : k < len
    · obtain ⟨ab, off, rfl, hab, hcell⟩ := hcells (by omega)
      obtain ⟨kd, v, hkd, hv, c0, c1⟩ := hcell k hlt
      have c0 := (hbk.cell (p := ⟨ab, off + k * 2, none⟩) hab).trans c0
      have c1 := (hbk.cell (p := ⟨ab, off + k * 2 + 1, none⟩) hab).trans c1
      clear hcell hcells
      have hR1 := Lib.hid (hR.below ((Below.refl _ _).alloc (Nat.le_refl _) (.cells #[.int .i64 kd, .int .i64 v] 35)))
      have hF1 := Lib.hid (hF.below ((Below.refl _ _).alloc (Nat.le_refl _) (.cells #[.int .i64 kd, .int .i64 v] 35)))
      have hb1 := Lib.hid (hbk.alloc hbk.size (.cells #[.int .i64 kd, .int .i64 v] 35))
      have hN := Lib.hid (show (wr.alloc (.cells #[.int .i64 kd, .int .i64 v] 35)).heap[wr.heap.size]? = some (.cells #[.int .i64 kd, .int .i64 v] 35 (0, 0)) from heap_alloc_new _ _)
      have hNb : wr.heap.size ≠ b := by have := hR.lt; omega
      have hNc : wr.heap.size ≠ c := by have := hF.lt; omega
      have hd : (l.drop a).length ≤ 1000000 := by rw [List.length_drop]; omega
      have hl6 : l.length ≤ 1000000 := by omega
      clear hR hF hbk
      by_cases k1 : kd = 1
      · subst k1
        go_wp2_with fail
        generalize wr.alloc (.cells #[.int .i64 _, .int .i64 v] 35) = W0 at *
        generalize wr.heap.size = N at *
        refine (ruint_any (by exact hR1.out) hd).mono ?_
        rintro e w5 ⟨rfl, hR5, g5⟩
        have hF5 := hF1.out.grown g5 hbc.symm
        go_wp2_with fail
        refine (quintr_any (by exact hF5) hl6 ha).mono ?_
        rintro e w6 ⟨rfl, ⟨a', ha', hda, hF6⟩, g6⟩
        have hR6 := hR5.grown g6 hbc
        have hb6 := grown_below (grown_below hb1.out g5 hbw) g6 hcw
        rw [← hda] at hR6
        have hE6 := hF6.cell2
        have hR6H := Lib.hid hR6
        have hF6H := Lib.hid hF6
        have hdaH := Lib.hid hda
        clear hR6 hF6 hR5 hF5 hda
        go_wp2_with fail
        go_quiet (first
          | (go_at_call 26; exact quiet_left (err_any (hR6H.out.drewN _)))
          | (go_at_call 27; exact quiet_left (left_any (hR6H.out.drewN _)))
          | (go_at_call 28; exact Calls.quiet_of (qleft_any (hF6H.out.drewN _) hl6 ha')))
        go_wp2_with fail
        go_roundw
        case rel => exact ⟨k + 1, a', _, by omega, by go_num, ha', hR6H.out.drewN _, hF6H.out.drewN _, below_drewN hb6 _⟩
        case measure => simp [intOf]; omega
      · by_cases k2 : kd = 2
        · subst k2
          go_wp2_with fail
          generalize wr.alloc (.cells #[.int .i64 _, .int .i64 v] 35) = W0 at *
          generalize wr.heap.size = N at *
          refine (rint_any (by exact hR1.out) hd).mono ?_
          rintro e w5 ⟨rfl, hR5, g5⟩
          have hF5 := hF1.out.grown g5 hbc.symm
          go_wp2_with fail
          refine (qintr_any (by exact hF5) hl6 ha).mono ?_
          rintro e w6 ⟨rfl, ⟨a', ha', hda, hF6⟩, g6⟩
          have hR6 := hR5.grown g6 hbc
          have hb6 := grown_below (grown_below hb1.out g5 hbw) g6 hcw
          rw [← hda] at hR6
          have hE6 := hF6.cell2
          have hR6H := Lib.hid hR6
          have hF6H := Lib.hid hF6
          have hdaH := Lib.hid hda
          clear hR6 hF6 hR5 hF5 hda
          go_wp2_with fail
          go_quiet (first
            | (go_at_call 26; exact quiet_left (err_any (hR6H.out.drewN _)))
            | (go_at_call 27; exact quiet_left (left_any (hR6H.out.drewN _)))
            | (go_at_call 28; exact Calls.quiet_of (qleft_any (hF6H.out.drewN _) hl6 ha')))
          go_wp2_with fail
          go_roundw
          case rel => exact ⟨k + 1, a', _, by omega, by go_num, ha', hR6H.out.drewN _, hF6H.out.drewN _, below_drewN hb6 _⟩
          case measure => simp [intOf]; omega
        · by_cases k3 : kd = 3
          · subst k3
            go_wp2_with fail
            generalize wr.alloc (.cells #[.int .i64 _, .int .i64 v] 35) = W0 at *
            generalize wr.heap.size = N at *
            refine (rbyte_any (by exact hR1.out) hd).mono ?_
            rintro e w5 ⟨rfl, hR5, g5⟩
            have hF5 := hF1.out.grown g5 hbc.symm
            go_wp2_with fail
            refine (qbyte_any (by exact hF5) hl6 ha).mono ?_
            rintro e w6 ⟨rfl, ⟨a', ha', hda, hF6⟩, g6⟩
            have hR6 := hR5.grown g6 hbc
            have hb6 := grown_below (grown_below hb1.out g5 hbw) g6 hcw
            rw [← hda] at hR6
            have hE6 := hF6.cell2
            have hR6H := Lib.hid hR6
            have hF6H := Lib.hid hF6
            have hdaH := Lib.hid hda
            clear hR6 hF6 hR5 hF5 hda
            go_wp2_with fail
            go_quiet (first
              | (go_at_call 26; exact quiet_left (err_any (hR6H.out.drewN _)))
              | (go_at_call 27; exact quiet_left (left_any (hR6H.out.drewN _)))
              | (go_at_call 28; exact Calls.quiet_of (qleft_any (hF6H.out.drewN _) hl6 ha')))
            go_wp2_with fail
            go_roundw
            case rel => exact ⟨k + 1, a', _, by omega, by go_num, ha', hR6H.out.drewN _, hF6H.out.drewN _, below_drewN hb6 _⟩
            case measure => simp [intOf]; omega
          · have k1 : (kd == 1) = false := by simpa using k1
            have k2 : (kd == 2) = false := by simpa using k2
            have k3 : (kd == 3) = false := by simpa using k3
            by_cases k4 : kd = 4
            · subst k4
              go_wp2_with fail
              generalize wr.alloc (.cells #[.int .i64 _, .int .i64 v] 35) = W0 at *
              have hN1 : W0.cell? ⟨wr.heap.size, 1, none⟩ = some (.int .i64 v) := cell_of_row _ _ 1 _ _ _ hN.out
              generalize wr.heap.size = N at *
              go_region_held3 (fun w' => w'.cell? ⟨N, 1, none⟩ = some (.int .i64 v)) (go_keep)
                (first
                  | (go_at_call 23; refine (rstr_any (by exact hR1.out.drew) hd hv).mono ?_; rintro e w5 ⟨rfl, hR5, g5⟩; have hN1 := g5.cell (a := ⟨N, 1, none⟩) hN1 (by simpa using hNb))
                  | (go_at_call 24; refine (qstrr_any (by exact hF1.out.drew.grown g5 hbc.symm) hl6 ha hv).mono ?_; rintro e w6 ⟨rfl, hx6, g6⟩; have hN1 := g6.cell (a := ⟨N, 1, none⟩) hN1 (by simpa using hNc)))
              obtain ⟨a', ha', hda, hF6⟩ := hx6
              have hR6 := hR5.grown g6 hbc
              have hb6 := grown_below (grown_below (below_drewN hb1.out 1) (by exact g5) hbw) g6 hcw
              rw [← hda] at hR6
              clear hN1
              have hF5 := ()
              have hE6 := hF6.cell2
              have hR6H := Lib.hid hR6
              have hF6H := Lib.hid hF6
              have hdaH := Lib.hid hda
              clear hR6 hF6 hR5 hF5 hda
              go_wp2_with fail
              go_quiet (first
                | (go_at_call 26; exact quiet_left (err_any (hR6H.out.drewN _)))
                | (go_at_call 27; exact quiet_left (left_any (hR6H.out.drewN _)))
                | (go_at_call 28; exact Calls.quiet_of (qleft_any (hF6H.out.drewN _) hl6 ha')))
              go_wp2_with fail
              go_roundw
              case rel => exact ⟨k + 1, a', _, by omega, by go_num, ha', hR6H.out.drewN _, hF6H.out.drewN _, below_drewN hb6 _⟩
              case measure => simp [intOf]; omega
            · have k4 : (kd == 4) = false := by simpa using k4
              by_cases k5 : kd = 5
              · subst k5
                go_wp2_with fail
                generalize wr.alloc (.cells #[.int .i64 _, .int .i64 v] 35) = W0 at *
                have hN1 : W0.cell? ⟨wr.heap.size, 1, none⟩ = some (.int .i64 v) := cell_of_row _ _ 1 _ _ _ hN.out
                generalize wr.heap.size = N at *
                refine (fail_any (by exact hR1.out)).mono ?_
                rintro e w5 ⟨rfl, hR5, g5⟩
                have hF5 := hF1.out.grown g5 hbc.symm
                have hb5 := grown_below hb1.out g5 hbw
                have hN1 := g5.cell (a := ⟨N, 1, none⟩) hN1 (by simpa using hNb)
                have hz := hF5.cell2
                have hf2 := hF5.free 2
                obtain ⟨a', rfl⟩ : ∃ a', a' = a := ⟨a, rfl⟩
                have ha' := ha
                have hda := True.intro
                have HR5 := Lib.hid hR5
                have HF5 := Lib.hid hF5
                clear hR5 hF5
                by_cases h0 : er = 0
                · subst h0
                  go_wp2_with fail
                  have hR6 := HR5.out.grown (grown_setCell w5 c 2 (.int .i64 v)) hbc
                  rw [show fst_ 0 v = v by rfl] at hR6
                  have hF6 := HF5.out.set2 v
                  have hb6 := grown_below hb5 (grown_setCell w5 c 2 (.int .i64 v)) hcw
                  have hF5 := ()
                  have hR5 := ()
                  clear hz hN1 hf2
                  generalize w5.setCell ⟨c, 2, none⟩ (.int .i64 v) = w6 at *
                  have hE6 := hF6.cell2
                  have hR6H := Lib.hid hR6
                  have hF6H := Lib.hid hF6
                  have hdaH := Lib.hid hda
                  clear hR6 hF6 hR5 hF5 hda
                  go_wp2_with fail
                  go_quiet (first
                    | (go_at_call 26; exact quiet_left (err_any (hR6H.out.drewN _)))
                    | (go_at_call 27; exact quiet_left (left_any (hR6H.out.drewN _)))
                    | (go_at_call 28; exact Calls.quiet_of (qleft_any (hF6H.out.drewN _) hl6 ha')))
                  go_wp2_with fail
                  go_roundw
                  case rel => exact ⟨k + 1, a', _, by omega, by go_num, ha', hR6H.out.drewN _, hF6H.out.drewN _, below_drewN hb6 _⟩
                  case measure => simp [intOf]; omega
                · have H0 := Lib.hid h0
                  have h0 : (er == 0) = false := by simpa using h0
                  have hR6 := HR5.out
                  rw [fst_, if_neg H0.out] at hR6
                  have hF6 := HF5.out
                  have hb6 := hb5
                  have hF5 := ()
                  have hR5 := ()
                  go_wp2_with fail
                  have hE6 := hF6.cell2
                  have hR6H := Lib.hid hR6
                  have hF6H := Lib.hid hF6
                  have hdaH := Lib.hid hda
                  clear hR6 hF6 hR5 hF5 hda
                  go_wp2_with fail
                  go_quiet (first
                    | (go_at_call 26; exact quiet_left (err_any (hR6H.out.drewN _)))
                    | (go_at_call 27; exact quiet_left (left_any (hR6H.out.drewN _)))
                    | (go_at_call 28; exact Calls.quiet_of (qleft_any (hF6H.out.drewN _) hl6 ha')))
                  go_wp2_with fail
                  go_roundw
                  case rel => exact ⟨k + 1, a', _, by omega, by go_num, ha', hR6H.out.drewN _, hF6H.out.drewN _, below_drewN hb6 _⟩
                  case measure => simp [intOf]; omega
              · have k5 : (kd == 5) = false := by simpa using k5
                go_wp2_with fail
                generalize wr.alloc (.cells #[.int .i64 _, .int .i64 v] 35) = W0 at *
                generalize wr.heap.size = N at *
                obtain ⟨a', rfl⟩ : ∃ a', a' = a := ⟨a, rfl⟩
                have ha' := ha
                have hda := True.intro
                have hR6 := hR1.out
                have hF6 := hF1.out
                have hb6 := hb1.out
                have hF5 := ()
                have hR5 := ()
                have hE6 := hF6.cell2
                have hR6H := Lib.hid hR6
                have hF6H := Lib.hid hF6
                have hdaH := Lib.hid hda
                clear hR6 hF6 hR5 hF5 hda
                go_wp2_with fail
                go_quiet (first
                  | (go_at_call 26; exact quiet_left (err_any (hR6H.out.drewN _)))
                  | (go_at_call 27; exact quiet_left (left_any (hR6H.out.drewN _)))
                  | (go_at_call 28; exact Calls.quiet_of (qleft_any (hF6H.out.drewN _) hl6 ha')))
                go_wp2_with fail
                go_roundw
                case rel => exact ⟨k + 1, a', _, by omega, by go_num, ha', hR6H.out.drewN _, hF6H.out.drewN _, below_drewN hb6 _⟩
                case measure => simp [intOf]; omega
    · clear hcells
      go_wp2_with fail
      go_ret
      exact ⟨rfl, hbk⟩

theorem CodecReads_walk {H : Type} {enc : TypeId × Value → H} {base : Nat} {d : DataW H} {p : List MemPlace} (s : ByteArray) (v : Value) (w : World) (hs : s.size ≤ maxLen) (hv : Value.okWide Try.prog w .any base 28 v) (ht : DataW.Trod enc Try.prog w 0 (fun _ => true) true 28 v d p) :
    Calls Try.prog 4 #[.string s, v] w fun e w' => e = .returned (.bool true) ∧ Below w.heap.size w w' := by
  obtain ⟨l, rfl, hl⟩ := str_list s
  obtain ⟨a, len, cap, rfl, hz⟩ := open_oprow hv ht
  by_cases h : 1000 < l.length ∨ 100 < len
  · exact CodecReads_out l a len cap w (by omega) hz.1 h
  · exact CodecReads_in l a len cap w (by omega) (by omega) hz


theorem CodecReads_calls (H : Type) (enc : TypeId × Value → H) (W : World) (base : Nat) (args : Array Value) (ds gs : List (DataW H)) (before : List MemPlace)
    (hval : ∀ (j : Nat) t v, Try.f4.params[j]? = some t → args[j]? = some v → Value.okWide Try.prog W .any base t v)
    (hW : DataW.Whole enc Try.prog Try.f4.params.toList Rows.codecReadsSpec.vars false W args.toList ds gs before) :
    Calls Try.prog 4 args W fun e W' => e = .returned (.bool true) ∧ Below W.heap.size W W' := by
  obtain ⟨p, q, hA, hV, rfl, hfz, hnd⟩ := hW
  rw [Try.params4] at hA hval
  obtain ⟨v0, vs0, d0, ds0, p0, q0, hargs, rfl, rfl, h0, r0⟩ := trodAll_cons hA
  obtain ⟨v1, vs1, d1, ds1, p1, q1, rfl, rfl, rfl, h1, r1⟩ := trodAll_cons r0
  obtain ⟨rfl, rfl, rfl⟩ := trodAll_nil r1
  obtain rfl : args = #[v0, v1] := Array.toList_inj.1 hargs
  obtain ⟨x0, rfl, rfl, rfl, w0⟩ := open_string Try.underlying9 (hval 0 9 v0 rfl rfl) h0
  exact CodecReads_walk x0 v1 W w0 (hval 1 28 v1 rfl rfl) h1

set_option maxRecDepth 100000 in
theorem CodecReads_lifted (os : Os) (started : os.Started) (H : Type) (enc : TypeId × Value → H) :
    ReturnsInHanded {} Try.checked os 4 .any (Rows.codecReadsSpec.pre6 enc Try.prog Try.f4 Rows.codecReadsRow.domain false) (Rows.codecReadsSpec.post enc Try.prog Try.f4 false true false false) := by
  refine returnsInHanded_of_change (C := Try.checked) own started (by kernel_rfl) Try.func4
    (ChangeSpec.witness6 (enc := enc) (C := Try.checked) false ⟨#[], #[.string ByteArray.empty, .slice none 0 0], []⟩ 8 (by kernel_rfl) (by kernel_rfl) (by kernel_rfl) (by kernel_rfl)) ?_
  intro W base args ds gs before hval0 hW hcnd _
  have hval : ∀ (j : Nat) t v, Try.f4.params[j]? = some t → args[j]? = some v → Value.okWide Try.prog W .any base t v := hval0
  refine (CodecReads_calls H enc W base args ds gs before hval hW).mono fun e W' ⟨he, bel⟩ => ?_
  exact ⟨_, he, law_post (ts := [9, 28]) (by rw [Try.params4]) (by intro t ht; simp only [List.mem_cons, List.not_mem_nil, or_false] at ht; rcases ht with rfl | rfl <;> exact ⟨by kernel_rfl, of_decide_eq_true (by kernel_rfl)⟩) hW rfl
    (fun ds h => by match ds, h with | [_, _], _ => rfl) (by kernel_rfl) bel⟩

theorem CodecReads_over : Rows.codecReadsRow.holds Try.pinned (OpenSpec.ofChange Rows.codecReadsSpec) :=
  OpenClaim.holds_of_wide 4 Try.f4 rfl rfl rfl rfl rfl rfl rfl ⟨rfl, rfl, rfl, rfl, rfl⟩ rfl rfl rfl rfl rfl (by kernel_rfl) Try.func4 (by kernel_rfl)
    (of_decide_eq_true (by kernel_rfl)) (by unfold Func.isWrapper; first | (rw [if_pos (by decide +kernel)]; kernel_rfl) | (rw [if_neg (by decide +kernel)]; exact ⟨rfl, rfl⟩))
    (fun os started H enc _ => CodecReads_lifted os started H enc)

/-- The statement. -/
theorem CodecReads_proved : Rows.CodecReadsSaid := CodecReads_over

end Go.Proofs.Ytkmcppnbbppokaa
