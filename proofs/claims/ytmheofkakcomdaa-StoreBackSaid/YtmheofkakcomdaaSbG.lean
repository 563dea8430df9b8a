/-
  store: what a call leaves, told by a view; Note, Begin, Keep, Write, Grow, SetSlot, GrowTable.
-/
import Derived.Test.YtmheofkakcomdaaSbF
import Derived.Test.YtmheofkakcomdaaSw
set_option linter.unusedVariables false
set_option linter.unusedSimpArgs false
namespace Go.Proofs.Ytmheofkakcomdaa
open Go.RowKit
/-- What of a store one may tell. -/
structure Vw where
  l : List UInt8
  lt : List Int
  vs : List Vr
  nn : Nat
  f : Int → Option Value
  fs : List (Option (Array Value))
  cells : List Int
  es : List En
  ms : List Int
def Rc.vw (r : Rc) : Vw := ⟨r.l, r.lt, r.vs, r.nn, r.f, r.fs.map (Option.map Fv.cs), r.cells, r.es, r.ms⟩
structure Ct where
  S : Nat
  M : Nat
  T : Nat
  Fu : Nat
  J : Nat
  K : Nat
  most : Int
  mt : Int
def Rc.cst (r : Rc) : Ct := ⟨r.S, r.M, r.T, r.Fu, r.J, r.K, r.most, r.mt⟩
/-- A call leaves a store with the view v. -/
def Out (w : World) (B : Nat) (r : Rc) (v : Vw) (w' : World) : Prop := ∃ r', Ws w' B r' ∧ Upd w r.foot r'.foot w' ∧ r'.cst = r.cst ∧ r'.vw = v
def jes (ms : List Int) (es : List En) (q : En) : List En := if ms = [] then es else es ++ [q]
def kes (ms : List Int) (es : List En) : List En := if ms = [] then [] else es
section
variable {w w' w'' : World} {B : Nat} {r : Rc}
theorem Out.refl (h : Ws w B r) : Out w B r r.vw w := ⟨r, h, Upd.refl, rfl, rfl⟩
theorem Out.still (h : Ws w B r) (hs : Step (fun _ => False) w w') : Out w B r r.vw w' := ⟨r, h.quiet hs, Upd.refl.quiet hs, rfl, rfl⟩
theorem Out.quiet {v : Vw} (h : Out w B r v w') (hs : Step (fun _ => False) w' w'') : Out w B r v w'' := by
  obtain ⟨r', h1, h2, h3, h4⟩ := h
  exact ⟨r', h1.quiet hs, h2.quiet hs, h3, h4⟩
theorem Out.after {v : Vw} (hs : Step (fun _ => False) w w') (h : Out w' B r v w'') : Out w B r v w'' := by
  obtain ⟨r', h1, h2, h3, h4⟩ := h
  exact ⟨r', h1, Upd.after hs h2, h3, h4⟩
theorem Out.step (h : Ws w B r) {r1 : Rc} (hu : Upd w r.foot r1.foot w') (hc : r1.cst = r.cst) {v : Vw} (h2 : Out w' B r1 v w'') : Out w B r v w'' := by
  obtain ⟨r', h1, h2, h3, h4⟩ := h2
  exact ⟨r', h1, hu.trans h2, h3.trans hc, h4⟩
theorem Ws.c0 (h : Ws w B r) : w.cell? ⟨r.S, 0, none⟩ = some (.pointer (some ⟨r.M, 0, none⟩)) := h.blk.cell 0
theorem Ws.c1 (h : Ws w B r) : w.cell? ⟨r.S, 1, none⟩ = some (.pointer (some ⟨r.T, 0, none⟩)) := h.blk.cell 1
theorem Ws.c2 (h : Ws w B r) : w.cell? ⟨r.S, 2, none⟩ = some (.pointer (some ⟨r.Fu, 0, none⟩)) := h.blk.cell 2
theorem Ws.c3 (h : Ws w B r) : w.cell? ⟨r.S, 3, none⟩ = some (.slice r.Av r.nv r.cv) := h.blk.cell 3
theorem Ws.c4 (h : Ws w B r) : w.cell? ⟨r.S, 4, none⟩ = some (.map (some r.K)) := h.blk.cell 4
theorem Ws.c5 (h : Ws w B r) : w.cell? ⟨r.S, 5, none⟩ = some (.pointer (some ⟨r.J, 0, none⟩)) := h.blk.cell 5
theorem Ws.nm0 (h : Ws w B r) : r.nm = 0 ↔ r.ms = [] := by rw [h.jn.lm]; exact List.length_eq_zero_iff
/-- Note, in both its ways. -/
theorem w_note (h : Ws w B r) (hB : B ≤ w.heap.size) (hl : r.nl ≤ 1000000) (q : En) :
    Calls Try.prog 37 #[.pointer (some ⟨r.J, 0, none⟩), .agg #[.int .i64 q.kind, .int .i64 q.at_, .int .u64 q.old, .string (str q.bytes)]] w fun e w' => e = .returned (.tuple #[]) ∧ Out w B r { r.vw with es := jes r.ms r.es q } w' := by
  by_cases h0 : r.nm = 0
  · have hj := h.jn
    rw [h0] at hj
    refine (jnote_closed w B r.J r.Al r.nl r.cl r.Am r.cm r.es r.ms _ _ _ _ hj).mono ?_
    rintro e w' ⟨rfl, hs⟩
    refine ⟨rfl, ?_⟩
    have e1 : jes r.ms r.es q = r.es := if_pos (h.nm0.1 h0)
    rw [e1]
    exact Out.still h hs
  · refine (jnote_open w B r.J r.Al r.nl r.cl r.Am r.nm r.cm r.es r.ms q h.jn hB hl (by omega)).mono ?_
    rintro e w' ⟨rfl, A', c', hj, hu⟩
    have e1 : jes r.ms r.es q = r.es ++ [q] := if_neg (fun e => h0 (h.nm0.2 e))
    rw [e1]
    have hh := h.jou hj hu
    exact ⟨rfl, _, hh.1, hh.2, rfl, rfl⟩
set_option maxRecDepth 100000 in
theorem w_begin (h : Ws w B r) (hB : B ≤ w.heap.size) (hl : r.nl ≤ 1000000) (hm : r.nm ≤ 1000000) :
    Calls Try.prog 24 #[.pointer (some ⟨r.S, 0, none⟩)] w fun e w' => e = .returned (.tuple #[]) ∧ Out w B r { r.vw with ms := r.ms ++ [(r.es.length : Int)] } w' := by
  have c5 := h.c5
  have hmk := jmark_any w B r.J r.Al r.nl r.cl r.Am r.nm r.cm r.es r.ms h.jn hB hl hm
  rw [h.jn.ll] at hmk
  have HM := Lib.hid hmk
  have HLL := Lib.hid h.jn.ll
  have H := Lib.hid h
  clear h hmk
  go_enter Try.func24, Try.ntmps24
  go_wp2_with fail
  rw [← HLL.out] at HM
  refine HM.out.mono ?_
  rintro e w' ⟨rfl, A', c', hj, hu⟩
  have HH := Lib.hid (H.out.jou hj hu)
  clear hj hu HM
  go_wp2_with fail
  go_end0
  exact ⟨rfl, _, HH.out.1, HH.out.2, rfl, by rw [← HLL.out]; rfl⟩
set_option maxRecDepth 100000 in
theorem w_keep_err (h : Ws w B r) (hm : r.ms = []) : Calls Try.prog 28 #[.pointer (some ⟨r.S, 0, none⟩)] w fun e w' => e = .returned (.int .i64 1) ∧ w' = w := by
  have c5 := h.c5
  have hj := h.jn
  rw [h.nm0.2 hm] at hj
  have HJ := Lib.hid (j_keep_err hj)
  clear h hj
  go_enter Try.func28, Try.ntmps28
  go_wp2_with fail
  refine HJ.out.mono ?_
  rintro e w' ⟨rfl, rfl⟩
  go_wp2_with fail
  go_ret
  exact ⟨rfl, rfl⟩
set_option maxRecDepth 100000 in
theorem w_keep_ok (h : Ws w B r) {ms : List Int} {a : Int} (hms : r.ms = ms ++ [a]) (hm : ms.length ≤ 1000000) : Calls Try.prog 28 #[.pointer (some ⟨r.S, 0, none⟩)] w fun e w' => e = .returned (.int .i64 0) ∧ Out w B r { r.vw with ms := ms, es := kes ms r.es } w' := by
  have c5 := h.c5
  have hj := h.jn
  have hl := hj.lm
  rw [hms, List.length_append, List.length_singleton] at hl
  rw [hl, hms] at hj
  have HJ := Lib.hid (j_keep_ok hj hm)
  have HL := Lib.hid hl
  have HMS := Lib.hid hms
  have H := Lib.hid h
  clear h hj hl hms
  go_enter Try.func28, Try.ntmps28
  go_wp2_with fail
  refine HJ.out.mono ?_
  rintro e w' ⟨rfl, Al', nl', cl', es', hj, h1, h2, hu⟩
  have HH := Lib.hid (H.out.jou hj (by
    have : jfoot r.J r.Al r.Am = jfoot r.J r.Al r.Am := rfl
    exact hu))
  have HE : Hid (es' = kes ms r.es) := by
    by_cases h0 : ms = []
    · rw [Hid, kes, if_pos h0]; exact h2 (by rw [h0]; rfl)
    · rw [Hid, kes, if_neg h0]; exact h1 (List.length_pos_iff.2 h0)
  clear hj h1 h2 hu HJ
  go_wp2_with fail
  go_ret
  exact ⟨rfl, _, HH.out.1, HH.out.2, rfl, by rw [← HE.out]; rfl⟩
end
end Go.Proofs.Ytmheofkakcomdaa
