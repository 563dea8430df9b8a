/-
  store: undo of bytes; Back over one entry of bytes; the page's example.
-/
import Derived.Test.YtmheofkakcomdaaSx
import Derived.Laws.IdiomStrings
set_option linter.unusedVariables false
set_option linter.unusedSimpArgs false
namespace Go.Proofs.Ytmheofkakcomdaa
open Go.RowKit

theorem conv_str (w : World) (l : List UInt8) : ∃ w1 cap, (convert 9 39 (.string (str l))).run Try.prog w = .ok (.slice (some ⟨w.heap.size, 0, none⟩) l.length cap) w1 ∧
    Reads w1 (fun k => k = w.heap.size) 1 (some ⟨w.heap.size, 0, none⟩) l.length (u8s l) ∧ Step (fun _ => False) w w1 := by
  have h := run_bytes_of_string (P := Try.prog) w 9 39 5 (str l) Try.underlying9 Try.underlying39 Try.underlying5
  rw [str_size] at h
  refine ⟨_, _, h, ⟨by rw [u8s_length, Nat.mul_one], fun hn => ⟨⟨w.heap.size, 0, none⟩, rfl, rfl, by simp, fun j u hu => ?_⟩⟩, Step.refl.drew.alloc _⟩
  rw [Addr.add_lit, Nat.zero_add, cell_of_row _ w.heap.size j _ _ _ (heap_alloc_new w.drew _)]
  have hj : j < l.length := by
    have := (List.getElem?_eq_some_iff.1 hu).1
    rwa [u8s_length] at this
  rw [u8s_get l j hj] at hu
  rw [← Option.some.inj hu]
  have hs : j < (str l).data.size := by simpa [str] using hj
  unfold bytesRow
  rw [Array.getElem?_append_left (by simpa using hs)]
  simp [str, hj]

set_option maxRecDepth 100000 in
set_option maxHeartbeats 1600000 in
theorem undo_bytes (w : World) (B : Nat) (s : St) (a : Nat) (o : Int) (d : List UInt8) (h : Stw w B s) (hak : a + d.length ≤ s.n) :
    Calls Try.prog 49 #[.pointer (some ⟨s.S, 0, none⟩), .agg #[.int .i64 1, .int .i64 (a : Int), .int .u64 o, .string (str d)]] w fun e w' => e = .returned (.tuple #[]) ∧
      Stw w' B { s with l := s.l.take a ++ d ++ s.l.drop (a + d.length) } ∧ Step (fun q => blkOf s.A = some q) w w' := by
  have hsm := h.mm.small
  have hal : Step (fun _ => False) w (w.alloc (.cells #[.int .i64 1, .int .i64 (a : Int), .int .u64 o, .string (str d)] 92)) := Step.refl.alloc _
  have H1 := Lib.hid (h.quiet hal)
  have HBx := Lib.hid (Blk.new w 92 #[.int .i64 1, .int .i64 (a : Int), .int .u64 o, .string (str d)])
  obtain ⟨H, hH⟩ : ∃ H, H = w.heap.size := ⟨_, rfl⟩
  obtain ⟨V, hV⟩ : ∃ V, V = w.alloc (.cells #[.int .i64 1, .int .i64 (a : Int), .int .u64 o, .string (str d)] 92) := ⟨_, rfl⟩
  rw [← hV] at H1 hal HBx
  rw [← hH] at HBx
  have HV := Lib.hid hV
  have HH := Lib.hid hH
  have HAL := Lib.hid hal
  have wa : IntKind.u64.wrap (a : Int) = (a : Int) := by rw [Go.IntKind.wrap_u64]; omega
  have HK : Hid (a + d.length ≤ s.n) := hak
  clear hV hH hal h hak
  go_enter Try.func49, Try.ntmps49
  go_upto_region 3 with fail
  rw [← HV.out, ← HH.out]
  have x0 := H1.out.blk.cell 0
  have y1 := HBx.out.cell 1
  have y3 := HBx.out.cell 3
  simp at x0 y1 y3
  have d0 := cls_cell (F := fun _ => False) (w0 := V) x0 id
  have d1 := cls_cell (F := fun _ => False) (w0 := V) y1 id
  have d3 := cls_cell (F := fun _ => False) (w0 := V) y3 id
  clear x0 y1 y3
  refine Mix.wp_region_mix [9, 10] [9] (Step (fun _ => False) V) (by kernel_rfl) (by kernel_rfl) Step.refl.drew (fun hcls => ?_)
  refine Mix.wpL_reads 9 (by rfl) ?_
  simp only [List.take_succ_cons, List.drop_succ_cons, List.take_zero, List.drop_zero]
  repeat (go_big_quiet_step (fail))
  refine wpQuiet_nil ?_
  clear d0 d1 d3
  obtain ⟨w1, cap, hcv, hrd, hs1⟩ := conv_str V.drew d
  have HRd := Lib.hid hrd
  have HS1 := Lib.hid hs1
  clear hrd hs1
  refine Mix.wpL_op (by rfl) (fun K hK => ?_)
  go_simp
  refine hK _ _ (fun hlt => Mix.cl (Step.refl.drew.trans HS1.out)) ?_
  clear hK K hcv
  have H2 := Lib.hid (H1.out.quiet (Step.refl.drew.trans HS1.out))
  have HW := Lib.hid (mwrite_ok w1 B s.M s.A s.n s.c s.most s.l d a d.length cap _ _ H2.out.mm HRd.out rfl HK.out)
  refine Mix.wpL_op (by rfl) (fun K hK => ?_)
  go_simp
  refine HW.out.mono ?_
  rintro e w3 ⟨rfl, hM, hSt⟩
  have HN := Lib.hid (H2.out.write _ hSt hM)
  have HSt := Lib.hid ((HAL.out.trans (Step.refl.drew.trans HS1.out)).trans' (F := fun _ => False) Step.refl (fun _ e => e))
  have HSu := Lib.hid hSt
  refine hK _ _ (fun hlt => absurd hlt (by decide)) ?_
  clear hK K hM hSt HW
  refine Mix.wpL_end ?_
  go_wp2_with fail
  go_end0
  exact ⟨rfl, HN.out, (HSt.out.mono fun _ _ e => e.elim).trans HSu.out⟩
set_option maxRecDepth 100000 in
set_option maxHeartbeats 1600000 in
theorem sback_one (w : World) (B : Nat) (s : St) (a : Nat) (d : List UInt8) (h : Stw w B s) (hB : B ≤ w.heap.size) (hak : a + d.length ≤ s.n) (hnl : s.nl = 1) (hnm : s.nm = 1) (hes : s.es = [⟨1, a, 0, d⟩]) (hms : s.ms = [0]) :
    Calls Try.prog 26 #[.pointer (some ⟨s.S, 0, none⟩)] w fun e w' => e = .returned (.int .i64 0) ∧ Stw w' B { s with l := s.l.take a ++ d ++ s.l.drop (a + d.length), nl := 0, es := [], nm := 0, ms := [] } ∧ Step (fun q => blkOf s.A = some q ∨ q = s.J) w w' := by
  have c5 := h.blk.cell 5
  simp at c5
  have hjn := h.jn
  rw [hnl, hnm, hes, hms] at hjn
  have HJ := jback_ok w B s.J s.Al 1 s.cl s.Am 0 s.cm [⟨1, a, 0, d⟩] [] 0 hjn hB (by omega) (by omega) (by omega)
  simp only [List.drop_zero, List.reverse_cons, List.reverse_nil, List.nil_append, List.take_zero, Nat.sub_zero] at HJ
  replace HJ := Lib.hid HJ
  have H := Lib.hid h
  have HAK := Lib.hid hak
  clear h hjn hnl hnm hes hms hak
  go_enter Try.func26, Try.ntmps26
  go_wp2_with fail
  refine HJ.out.mono ?_
  rintro e w1 ⟨A', c', rfl, hown, hj, hs⟩
  have hu : Upd w (jfoot s.J s.Al s.Am) (jfoot s.J s.Al s.Am) w1 := ⟨hs.mono fun _ _ e => .inl e, fun _ e => .inl e⟩
  have H1 := Lib.hid (H.out.note hu hj)
  have HO := Lib.hid hown
  have HS := Lib.hid hs
  have HR := Lib.hid (Reads.of_own hown)
  clear hown hj hs hu HJ c5
  obtain ⟨bk, off, rfl, _, hbk, hc⟩ := reads_row En.cells 4 (by decide) En.four (l := [⟨1, a, 0, d⟩]) HR.out (k := 0) (by simp)
  have y0 := hc 0 _ rfl
  have y1 := hc 1 _ rfl
  have y2 := hc 2 _ rfl
  have y3 := hc 3 _ rfl
  simp only [Nat.add_zero, Nat.zero_mul] at y0 y1 y2 y3
  clear hc HR
  go_wp2_with fail
  go_loopw [17] (fun iv wr => (iv = .int .i64 0 ∧ Hid (wr = w1)) ∨ (iv = .int .i64 1 ∧ Hid (Stw wr B { s with l := s.l.take a ++ d ++ s.l.drop (a + d.length), nl := 0, es := [], nm := 0, ms := [] } ∧ Step (fun q => blkOf s.A = some q ∨ q = s.J) w wr))) (fun iv _ => 2 - (intOf iv).toNat)
  case atStart => exact .inl ⟨rfl, rfl⟩
  case round =>
    rcases hrel with ⟨rfl, hw⟩ | ⟨rfl, hw⟩
    · have hw2 := hw.out.symm
      subst hw2
      go_wp2_with fail
      have hal : Step (fun _ => False) w1 (w1.alloc (.cells #[.int .i64 1, .int .i64 (a : Int), .int .u64 0, .string (str d)] 92)) := Step.refl.alloc _
      refine (undo_bytes _ B _ a 0 d (H1.out.quiet hal) HAK.out).mono ?_
      rintro e w3 ⟨rfl, hN, hSt⟩
      have HN := Lib.hid hN
      have HST : Hid (Step (fun q => blkOf s.A = some q ∨ q = s.J) w w3) := (HS.out.mono fun _ _ e => .inr e).trans (((hal.mono fun _ _ e => e.elim).trans hSt).mono fun _ _ e => .inl e)
      clear hal hN hSt
      go_wp2_with fail
      go_roundw
      case rel => exact .inr ⟨rfl, HN.out, HST.out⟩
      case measure => simp [intOf]
    · go_wp2_with fail
      go_ret
      exact ⟨rfl, hw.out.1, hw.out.2⟩
end Go.Proofs.Ytmheofkakcomdaa
