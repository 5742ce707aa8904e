/- The law's player: one is made. -/
import Derived.Test.YtomfmejodmfioaaGreatMstPlay
namespace Go.Proofs.YtomfmejodmfioaaGreat
open Go.RowKit Go.Maps Go.ChangeShapes Go.WideShapes Go.Joins Go.Deep
set_option linter.unusedVariables false

/-- Over an elder world. -/
theorem PlyAt.over {w0 w1 w : World} {B p N : Nat} {s : SetV} {V : MstV} {l : List UInt8} {cs : List ConfV} {now : Int} {bs : List Nat} (h : PlyAt w1 w B p s N V l cs now bs) (hb : Below w0.heap.size w0 w1) : PlyAt w0 w B p s N V l cs now bs := by
  obtain ⟨x, b, h1, h2, h3⟩ := h.own
  exact ⟨⟨x, b, h1, h2, h3.mst, below_step hb h3.below, Nat.le_trans hb.size h3.base, fun k hk => Nat.le_trans hb.size (h3.loc k hk)⟩, h.inv, Nat.le_trans hb.size h.new⟩
set_option maxRecDepth 100000 in
set_option maxHeartbeats 4000000 in

theorem made15_any {s : SetV} (hset : mayS s = true) (w : World) :
    Calls Tryz.prog 11 #[.agg (setC7 s).toArray] w fun e w' => ∃ B p bs, e = .returned (.tuple #[.pointer (some ⟨p, 0, none⟩), .bool true]) ∧ PlyAt w w' B p s 100 (beginM s (firstC s.nodes).1 s.base) (bytesS (encConf (firstC s.nodes).1)) [(firstC s.nodes).1] s.base bs := by
  have hsb0 := BlkAt.new w 23 (setC7 s)
  have hb := (Below.refl w.heap.size w).alloc (Nat.le_refl _) (.cells (setC7 s).toArray 23)
  have HS0 := Lib.hid hset
  clear hset
  go_enter Tryz.func11, Tryz.ntmps11
  go_upto_region 1 with (fail)
  change Code.wp _ _ _ _ (w.alloc (.cells (setC7 s).toArray 23))
  change BlkAt (w.alloc (.cells (setC7 s).toArray 23)) _ _ _ at hsb0
  generalize w.alloc (.cells (setC7 s).toArray 23) = W at *
  obtain ⟨sb, hsbd⟩ : ∃ sb, sb = w.heap.size := ⟨_, rfl⟩
  rw [← hsbd] at hsb0 ⊢
  have hsn : w.heap.size ≤ sb := Nat.le_of_eq hsbd.symm
  clear hsbd
  go_wp2_with fail
  refine (new_log _).mono ?_
  rintro en w2 ⟨lb, rfl, hlog, b2⟩
  have hlbn : W.heap.size ≤ lb := hlog.1
  have hsb2 := hsb0.below b2
  have hWn := hb.size
  have HB2 := Lib.hid (below_step hb b2)
  clear hsb0 hb b2
  have q0 : w2.cell? ⟨sb, 0, none⟩ = some (.int .i64 s.nodes) := hsb2.cell rfl
  have q1 : w2.cell? ⟨sb, 1, none⟩ = some (.int .i64 s.clients) := hsb2.cell rfl
  have q2 : w2.cell? ⟨sb, 2, none⟩ = some (.int .i64 s.timers) := hsb2.cell rfl
  have q3 : w2.cell? ⟨sb, 3, none⟩ = some (.int .i64 s.lease) := hsb2.cell rfl
  have q4 : w2.cell? ⟨sb, 4, none⟩ = some (.int .i64 s.suspect) := hsb2.cell rfl
  have q5 : w2.cell? ⟨sb, 5, none⟩ = some (.int .i64 s.skew) := hsb2.cell rfl
  have q6 : w2.cell? ⟨sb, 6, none⟩ = some (.int .i64 s.base) := hsb2.cell rfl
  go_wp2_with fail
  refine (mnew_any (s := s) (by exact hlog) HS0.out).mono ?_
  rintro en w3 ⟨x, b, rfl, hlb, hM, hF, hFN⟩
  subst hlb
  have hkb : ∀ {k : Nat} {T : TypeId}, IsCells w2 k T → T ≠ 114 → T ≠ 5 → w3.heap[k]? = w2.heap[k]? := fun {k T} hc h1 h2 => hF.at hc (fun e => by
    rw [List.mem_singleton.1 e] at hc
    exact cells_ne hc ⟨_, _, hlog.2.1⟩ h1 rfl) h2
  have hsb3 : BlkAt w3 sb 23 (setC7 s) := (hkb hsb2.kind (by decide) (by decide)).trans hsb2
  have HB3 : Hid (Below w.heap.size w w3) := Lib.hid (hF.to_below HB2.out (fun k hk => by rw [List.mem_singleton.1 hk]; omega) (by omega))
  have HO3 : Hid (OwnM w w3 W.heap.size x b 100 _ _) := Lib.hid (OwnM.first HB2.out hWn (by omega) hM hF hFN)
  clear q0 q1 q2 q3 q4 q5 q6 hkb hlog hsb2 hM hF hFN HB2
  have q0 : w3.cell? ⟨sb, 0, none⟩ = some (.int .i64 s.nodes) := hsb3.cell rfl
  have q1 : w3.cell? ⟨sb, 1, none⟩ = some (.int .i64 s.clients) := hsb3.cell rfl
  have q2 : w3.cell? ⟨sb, 2, none⟩ = some (.int .i64 s.timers) := hsb3.cell rfl
  have q3 : w3.cell? ⟨sb, 3, none⟩ = some (.int .i64 s.lease) := hsb3.cell rfl
  have q4 : w3.cell? ⟨sb, 4, none⟩ = some (.int .i64 s.suspect) := hsb3.cell rfl
  have q5 : w3.cell? ⟨sb, 5, none⟩ = some (.int .i64 s.skew) := hsb3.cell rfl
  have q6 : w3.cell? ⟨sb, 6, none⟩ = some (.int .i64 s.base) := hsb3.cell rfl
  have hb3 := HB3.out
  have HP := Lib.hid (BlkAt.new w3 39 (playC s b.lb x s.base))
  have bP : Below w3.heap.size w3 (w3.alloc (.cells (playC s b.lb x s.base).toArray 39)) := (Below.refl _ _).alloc (Nat.le_refl _) _
  have HMP := Lib.hid (HO3.out.step bP)
  have hpn := hb3.size
  clear hb3 bP
  go_wp2_with fail
  go_ret2
  exact ⟨W.heap.size, w3.heap.size, b.list x, rfl, ⟨x, b, rfl, HP.out, HMP.out⟩, begin_inv s HS0.out, hpn⟩
end Go.Proofs.YtomfmejodmfioaaGreat
