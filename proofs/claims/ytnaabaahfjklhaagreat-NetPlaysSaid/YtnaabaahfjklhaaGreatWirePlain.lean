/- Messages, in plain Lean: their fields, their bytes, how they are read. -/
import Derived.Test.YtnaabaahfjklhaaGreatWireRead
import Derived.Test.YtnaabaahfjklhaaGreatKCfg
import Derived.Test.YtnaabaahfjklhaaGreatKOp2
import Derived.Test.YtnaabaahfjklhaaGreatKCrc
namespace Go.Proofs.YtnaabaahfjklhaaGreat
open Go.RowKit
set_option linter.unusedVariables false

/-- What fired. -/
structure FireV where
  seq : Int
  client : Int
  id : Int
  gen : Int
  occ : Int
  stamp : Int
deriving DecidableEq
def FireV.nums (f : FireV) : List Int := [f.seq, f.client, f.id, f.gen, f.occ, f.stamp]
def fireOf (l : List Int) : FireV := ⟨l.getD 0 0, l.getD 1 0, l.getD 2 0, l.getD 3 0, l.getD 4 0, l.getD 5 0⟩
theorem fireOf_nums (f : FireV) : fireOf f.nums = f := rfl
theorem nums_fireOf {l : List Int} (h : l.length = 6) : (fireOf l).nums = l := by
  match l, h with
  | [a, b, c, d, e, f], _ => rfl
/-- A message. -/
structure MsgV where
  kind : Int
  dst : Int
  fn : Int
  fl : Int
  ep : Int
  seq : Int
  req : Int
  cl : Int
  id : Int
  un : Int
  flag : Bool
  op : OpV
  re : Int
  rg : Int
  rd : Int
  cf : ConfV
  fires : List FireV
  life : Int
deriving DecidableEq
def msgZero : MsgV := ⟨0, 0, 0, 0, 0, 0, 0, 0, 0, 0, false, opZero, 0, 0, 0, confZero, [], 0⟩
/-- Its fields. -/
inductive Fld where | fF | fE | fG | fS | fC | fU | fL | fO | fQ | fR | fI | fT | fX
deriving DecidableEq
open Fld
/-- The fields of a kind. -/
def fieldsOf (k : Int) : List Fld :=
  if k = 1 then [fF, fE, fG, fS] else if k = 2 then [fC, fU] else if k = 3 ∨ k = 4 ∨ k = 6 then [fF, fE, fS, fL] else if k = 5 then [fF, fE, fS, fL, fO] else
  if k = 7 then [fF, fO] else if k = 8 ∨ k = 10 then [fQ, fR, fS] else if k = 9 then [fF, fQ, fI] else if k = 11 then [fF, fE, fL, fQ, fT, fI] else
  if k = 12 then [fF, fE, fL, fQ, fT, fI, fS] else if k = 13 then [fF, fS] else if k = 14 then [fS, fX] else if k = 15 then [fF] else []
def setF (F : Fld) (M A : MsgV) : MsgV :=
  match F with
  | fF => { A with fn := M.fn, fl := M.fl }
  | fE => { A with ep := M.ep }
  | fG => { A with flag := M.flag }
  | fS => { A with seq := M.seq }
  | fC => { A with cf := M.cf }
  | fU => { A with un := M.un }
  | fL => { A with life := M.life }
  | fO => { A with op := M.op }
  | fQ => { A with req := M.req }
  | fR => { A with re := M.re, rg := M.rg, rd := M.rd }
  | fI => { A with id := M.id }
  | fT => { A with cl := M.cl }
  | fX => { A with fires := M.fires }
/-- A field's bytes. -/
def encFld (M : MsgV) (F : Fld) : List UInt8 :=
  match F with
  | fF => encI [M.fn, M.fl]
  | fE => encI [M.ep]
  | fG => [flagB M.flag]
  | fS => encI [M.seq]
  | fC => encConf M.cf
  | fU => encI [M.un]
  | fL => encI [M.life]
  | fO => encOp M.op
  | fQ => encI [M.req]
  | fR => encI [M.re, M.rg, M.rd]
  | fI => encI [M.id]
  | fT => encI [M.cl]
  | fX => enc M.fires.length ++ M.fires.flatMap fun f => encI f.nums
def kindB (k : Int) : UInt8 := UInt8.ofNat (k % 256).toNat
/-- A message's text, ahead of its sum. -/
def textOf (M : MsgV) : List UInt8 := kindB M.kind :: (encI [M.dst] ++ (fieldsOf M.kind).flatMap (encFld M))
def onlyM (M : MsgV) : MsgV := (fieldsOf M.kind).foldl (fun A F => setF F M A) { msgZero with kind := M.kind, dst := M.dst }
/-- May a message be? -/
def mayW (M : MsgV) : Bool :=
  decide (1 ≤ M.kind) && (decide (M.kind ≤ 15) && (decide (M = onlyM M) && (decide (M.fires.length ≤ 8) && (decide (M.kind = 5 ∨ M.kind = 7 → mayOp M.op = true) && decide (M.kind = 2 → rightC M.cf = true)))))
theorem mayW_iff {M : MsgV} : mayW M = true ↔ 1 ≤ M.kind ∧ M.kind ≤ 15 ∧ M = onlyM M ∧ M.fires.length ≤ 8 ∧ (M.kind = 5 ∨ M.kind = 7 → mayOp M.op = true) ∧ (M.kind = 2 → rightC M.cf = true) := by
  simp only [mayW, Bool.and_eq_true, decide_eq_true_eq]
/-- What is printed: bytes, or an error. -/
def printM (M : MsgV) : List UInt8 × Int := if mayW M = true then (if 1024 < (frame (textOf M)).length then ([], 15) else (frame (textOf M), 0)) else ([], 1)

/-- Fires that are read. -/
def rdFires : Nat → List UInt8 → Int → List FireV × List UInt8 × Int
  | 0, l, e => ([], l, e)
  | n + 1, l, e => ((rdFires n l e).1 ++ [fireOf (rdIs 6 (rdFires n l e).2.1 (rdFires n l e).2.2).1], (rdIs 6 (rdFires n l e).2.1 (rdFires n l e).2.2).2)
/-- A field that is read. -/
def rdFld (F : Fld) (A : MsgV) (l : List UInt8) (e : Int) : MsgV × List UInt8 × Int :=
  match F with
  | fF => ({ A with fn := (rdIs 2 l e).1.getD 0 0, fl := (rdIs 2 l e).1.getD 1 0 }, (rdIs 2 l e).2)
  | fE => ({ A with ep := (rdIs 1 l e).1.getD 0 0 }, (rdIs 1 l e).2)
  | fG => ({ A with flag := decide ((rdB l e).1 = 1) }, (rdB l e).2.1, if 1 < (rdB l e).1 then fst_ (rdB l e).2.2 3 else (rdB l e).2.2)
  | fS => ({ A with seq := (rdIs 1 l e).1.getD 0 0 }, (rdIs 1 l e).2)
  | fC => ({ A with cf := (takeC l e).1 }, (takeC l e).2)
  | fU => ({ A with un := (rdIs 1 l e).1.getD 0 0 }, (rdIs 1 l e).2)
  | fL => ({ A with life := (rdIs 1 l e).1.getD 0 0 }, (rdIs 1 l e).2)
  | fO => ({ A with op := (takeOp l e).1 }, (takeOp l e).2)
  | fQ => ({ A with req := (rdIs 1 l e).1.getD 0 0 }, (rdIs 1 l e).2)
  | fR => ({ A with re := (rdIs 3 l e).1.getD 0 0, rg := (rdIs 3 l e).1.getD 1 0, rd := (rdIs 3 l e).1.getD 2 0 }, (rdIs 3 l e).2)
  | fI => ({ A with id := (rdIs 1 l e).1.getD 0 0 }, (rdIs 1 l e).2)
  | fT => ({ A with cl := (rdIs 1 l e).1.getD 0 0 }, (rdIs 1 l e).2)
  | fX => if 8 < (rdU l e).1 then (A, (rdU l e).2.1, fst_ (rdU l e).2.2 3) else ({ A with fires := (rdFires (rdU l e).1 (rdU l e).2.1 (rdU l e).2.2).1 }, (rdFires (rdU l e).1 (rdU l e).2.1 (rdU l e).2.2).2)
def rdFlds : List Fld → MsgV → List UInt8 → Int → MsgV × List UInt8 × Int
  | [], A, l, e => (A, l, e)
  | F :: R, A, l, e => rdFlds R (rdFld F A l e).1 (rdFld F A l e).2.1 (rdFld F A l e).2.2
theorem rdFlds_snoc (R : List Fld) (F : Fld) (A : MsgV) (l : List UInt8) (e : Int) : rdFlds (R ++ [F]) A l e = rdFld F (rdFlds R A l e).1 (rdFlds R A l e).2.1 (rdFlds R A l e).2.2 := by
  induction R generalizing A l e with
  | nil => rfl
  | cons G R ih => exact ih _ _ _
/-- A message's head: its kind, whom it goes to. -/
def rdHead (l : List UInt8) : MsgV × List UInt8 × Int := ({ msgZero with kind := ((rdB l 0).1 : Int), dst := (rdIs 1 (rdB l 0).2.1 (rdB l 0).2.2).1.getD 0 0 }, (rdIs 1 (rdB l 0).2.1 (rdB l 0).2.2).2)
/-- What is read of a text that is whole. -/
def rdText (l : List UInt8) : MsgV × List UInt8 × Int := rdFlds (fieldsOf (rdHead l).1.kind) (rdHead l).1 (rdHead l).2.1 (rdHead l).2.2
def rawM (s : List UInt8) : MsgV × Bool :=
  if whole s = true then ((rdText (wholeOf s)).1, decide (fieldsOf (rdHead (wholeOf s)).1.kind ≠ []) && (decide ((rdText (wholeOf s)).2.2 = 0) && decide ((rdText (wholeOf s)).2.1 = []))) else (msgZero, false)
/-- What is read of bytes: a message, an error. -/
def readM (s : List UInt8) : MsgV × Int := if 1024 < s.length then (msgZero, 15) else if (rawM s).2 = true then ((rawM s).1, 0) else (msgZero, 3)

/-- Numbers of 64 bits, an operation, a chain and fires that may be held. -/
structure MOk (M : MsgV) : Prop where
  nums : ∀ x ∈ [M.kind, M.dst, M.fn, M.fl, M.ep, M.seq, M.req, M.cl, M.id, M.un, M.re, M.rg, M.rd, M.life, M.cf.epoch], W64 x
  op : OpOk M.op
  fires : ∀ f ∈ M.fires, ∀ x ∈ f.nums, W64 x
theorem MOk.mk' {M : MsgV} (h0 : W64 M.kind) (h1 : W64 M.dst) (h2 : W64 M.fn) (h3 : W64 M.fl) (h4 : W64 M.ep) (h5 : W64 M.seq) (h6 : W64 M.req) (h7 : W64 M.cl) (h8 : W64 M.id) (h9 : W64 M.un) (h10 : W64 M.re) (h11 : W64 M.rg) (h12 : W64 M.rd)
    (h13 : W64 M.life) (h14 : W64 M.cf.epoch) (ho : OpOk M.op) (hf : ∀ f ∈ M.fires, ∀ x ∈ f.nums, W64 x) : MOk M := by
  refine ⟨fun x hx => ?_, ho, hf⟩
  simp only [List.mem_cons, List.not_mem_nil, or_false] at hx
  rcases hx with rfl | rfl | rfl | rfl | rfl | rfl | rfl | rfl | rfl | rfl | rfl | rfl | rfl | rfl | rfl <;> assumption
end Go.Proofs.YtnaabaahfjklhaaGreat
