/-
  store: Begin, Write, SetSlot.
-/
import Derived.Test.YtmheofkakcomdaaSu
set_option linter.unusedVariables false
set_option linter.unusedSimpArgs false
namespace Go.Proofs.Ytmheofkakcomdaa
open Go.RowKit

theorem conv_bytes {S : Nat → Prop} {A : Option Addr} {w : World} {n c : Nat} {l : List UInt8} (h : Reads w S 1 A n (u8s l)) : (convert 39 9 (.slice A n c)).run Try.prog w = .ok (.string (str l)) w :=
  run_conv_bytes w 39 9 5 Try.underlying39 Try.underlying5 Try.underlying9 h
set_option maxRecDepth 100000 in
set_option maxHeartbeats 1600000 in
theorem sbegin_any (w : World) (B : Nat) (s : St) (h : Stw w B s) (hB : B ≤ w.heap.size) (hl : s.nl ≤ 1000000) (hm : s.nm ≤ 1000000) :
    Calls Try.prog 24 #[.pointer (some ⟨s.S, 0, none⟩)] w fun e w' => e = .returned (.tuple #[]) ∧ ∃ A' c', Stw w' B { s with Am := A', nm := s.nm + 1, cm := c', ms := s.ms ++ [(s.nl : Int)] } ∧ Upd w (jfoot s.J s.Al s.Am) (jfoot s.J s.Al A') w' := by
  have c5 := h.blk.cell 5
  simp at c5
  have HM := Lib.hid (jmark_any w B s.J s.Al s.nl s.cl s.Am s.nm s.cm s.es s.ms h.jn hB hl hm)
  have H := Lib.hid h
  clear h
  go_enter Try.func24, Try.ntmps24
  go_wp2_with fail
  refine HM.out.mono ?_
  rintro e w' ⟨rfl, A', c', hj, hu⟩
  have HN := Lib.hid (H.out.note hu hj)
  have HU := Lib.hid hu
  clear hj hu
  go_wp2_with fail
  go_end0
  exact ⟨rfl, A', c', HN.out, HU.out⟩
theorem swrite_err (w : World) (B : Nat) (s : St) (a k kc : Nat) (A' : Option Addr) (h : Stw w B s) (ha : a < 18446744073709551616) (hk : k ≤ 9223372036854775807) (hak : s.n < a + k) :
    Calls Try.prog 30 #[.pointer (some ⟨s.S, 0, none⟩), .int .u64 (a : Int), .slice A' k kc] w fun e w' => e = .returned (.int .i64 63) ∧ w' = w := by
  have c0 := h.blk.cell 0
  simp at c0
  have HR := Lib.hid (mread_err w B s.M s.A s.n s.c s.most s.l a (k : Int) h.mm ha (by omega) (.inr (by omega)))
  clear h
  go_enter Try.func30, Try.ntmps30
  go_wp2_with fail
  refine HR.out.mono ?_
  rintro e w' ⟨rfl, rfl⟩
  go_wp2_with fail
  go_ret
  exact ⟨rfl, rfl⟩
set_option maxRecDepth 100000 in
set_option maxHeartbeats 3200000 in
theorem swrite_ok (w : World) (B : Nat) (s : St) (a k kc : Nat) (A' : Option Addr) (S' : Nat → Prop) (d : List UInt8) (h : Stw w B s) (hr : Reads w S' 1 A' k (u8s d)) (hS' : ∀ q, S' q → q < w.heap.size ∧ ¬ jfoot s.J s.Al s.Am q) (hk : k = d.length) (hak : a + k ≤ s.n) (hB : B ≤ w.heap.size) (hl : s.nl ≤ 1000000) :
    Calls Try.prog 30 #[.pointer (some ⟨s.S, 0, none⟩), .int .u64 (a : Int), .slice A' k kc] w fun e w' => e = .returned (.int .i64 0) ∧
      ∃ Al' nl' cl' es', (s.nm = 0 → Al' = s.Al ∧ nl' = s.nl ∧ cl' = s.cl ∧ es' = s.es) ∧ (0 < s.nm → nl' = s.nl + 1 ∧ es' = s.es ++ [⟨1, a, 0, (s.l.drop a).take k⟩]) ∧
      Stw w' B { s with l := s.l.take a ++ d ++ s.l.drop (a + k), Al := Al', nl := nl', cl := cl', es := es' } ∧ Upd w (fun q => blkOf s.A = some q ∨ jfoot s.J s.Al s.Am q) (fun q => blkOf s.A = some q ∨ jfoot s.J Al' s.Am q) w' := by
  have HA : Hid (a + k ≤ s.n) := hak
  have hsm := h.mm.small
  have c0 := h.blk.cell 0
  simp at c0
  have HR := Lib.hid (mread_ok w B s.M s.A s.n s.c s.most s.l a k h.mm hak)
  have H := Lib.hid h
  have HRd := Lib.hid hr
  have HS' := Lib.hid hS'
  have HK := Lib.hid hk
  have wa : wrap64 (a : Int) = (a : Int) := by unfold wrap64; omega
  clear h hr hS' hk hak
  go_enter Try.func30, Try.ntmps30
  go_wp2_with fail
  refine HR.out.mono ?_
  rintro e w1 ⟨A1, c1, rfl, hown, hS⟩
  have H1 := Lib.hid (H.out.quiet hS)
  have HRd1 := Lib.hid (HRd.out.step hS (fun _ _ => id))
  have HS1 := Lib.hid hS
  have x5 := H1.out.blk.cell 5
  simp at x5
  have d5 := cls_cell (F := fun _ => False) (w0 := w1) x5 id
  have hcv : ∀ i : Mix.Cls (Step (fun _ => False) w1), (convert 39 9 (.slice A1 k c1)).run Try.prog i.val = .ok (.string (str ((s.l.drop a).take k))) i.val := fun i => conv_bytes (c := c1) ((Reads.of_own hown).step i.prop (fun _ _ => id))
  clear hown hS HR c0 x5
  go_wp2_with fail
  refine Mix.wp_region_mix [9] [] (Step (fun _ => False) w1) (by kernel_rfl) (by kernel_rfl) Step.refl.drew (fun hcls => ?_)
  refine Mix.wpL_reads 9 (by rfl) ?_
  simp only [List.take_succ_cons, List.drop_succ_cons, List.take_zero, List.drop_zero]
  repeat (go_big_quiet_step (fail))
  refine wpQuiet_nil ?_
  clear d5 hcv
  refine Mix.wpL_op (by rfl) (fun K hK => ?_)
  go_simp
  have H1d := Lib.hid (H1.out.quiet Step.refl.drew)
  by_cases hnm : s.nm = 0
  · have hjn := H1d.out.jn
    rw [hnm] at hjn
    refine (jnote_closed _ B s.J s.Al s.nl s.cl s.Am s.cm s.es s.ms _ _ _ _ hjn).mono ?_
    rintro e w2 ⟨rfl, hS2⟩
    have H2 := Lib.hid (H1d.out.quiet hS2)
    have HS2 := Lib.hid ((HS1.out.drew).trans hS2)
    have HRd2 := Lib.hid ((HRd1.out.drew).step hS2 (fun _ _ => id))
    refine hK _ _ (fun hlt => absurd hlt (by decide)) ?_
    have HNM := Lib.hid hnm
    clear hK K hS2 hjn hnm H1 HS1 HRd1 H1d
    refine Mix.wpL_end ?_
    have x0 := H2.out.blk.cell 0
    simp at x0
    have HW := Lib.hid (mwrite_ok w2 B s.M s.A s.n s.c s.most s.l d a k kc _ A' H2.out.mm HRd2.out HK.out HA.out)
    go_wp2_with fail
    refine HW.out.mono ?_
    rintro e w3 ⟨rfl, hM, hSt⟩
    have HN := Lib.hid (H2.out.write _ hSt hM)
    have HSt := Lib.hid hSt
    clear hM hSt HW x0
    go_wp2_with fail
    go_ret
    refine ⟨rfl, s.Al, s.nl, s.cl, s.es, fun _ => ⟨rfl, rfl, rfl, rfl⟩, fun h => by have := HNM.out; omega, HN.out, ?_, fun _ h => .inl h⟩
    exact (HS2.out.mono fun _ _ e => e.elim).trans (HSt.out.mono fun _ _ e => .inl e)
  · have HP : Hid (0 < s.nm) := Nat.pos_of_ne_zero hnm
    have HJ := jnote_open w1.drew B s.J s.Al s.nl s.cl s.Am s.nm s.cm s.es s.ms ⟨1, a, 0, (s.l.drop a).take k⟩ H1d.out.jn (Nat.le_trans hB HS1.out.drew.size) hl HP.out
    simp only at HJ
    refine HJ.mono ?_
    rintro e w2 ⟨rfl, Al', cl', hj, hu⟩
    have H2 := Lib.hid (H1d.out.note hu hj)
    have HU := Lib.hid (Upd.after HS1.out.drew hu)
    have HRd2 := Lib.hid ((HRd1.out.drew).mono (S' := fun q => q < w.heap.size ∧ ¬ jfoot s.J s.Al s.Am q) (fun q _ hq => HS'.out q hq) |>.step hu.1 (fun q hq => hq.2))
    refine hK _ _ (fun hlt => absurd hlt (by decide)) ?_
    clear hK K hu hj hnm H1 HS1 HRd1 H1d HJ
    refine Mix.wpL_end ?_
    have x0 := H2.out.blk.cell 0
    simp at x0
    have HW := Lib.hid (mwrite_ok w2 B s.M s.A s.n s.c s.most s.l d a k kc _ A' H2.out.mm HRd2.out HK.out HA.out)
    go_wp2_with fail
    refine HW.out.mono ?_
    rintro e w3 ⟨rfl, hM, hSt⟩
    have HN := Lib.hid (H2.out.write _ hSt hM)
    have HSt := Lib.hid hSt
    clear hM hSt HW x0
    go_wp2_with fail
    go_ret
    refine ⟨rfl, Al', s.nl + 1, cl', s.es ++ [⟨1, a, 0, (s.l.drop a).take k⟩], fun h => by have := HP.out; omega, fun _ => ⟨rfl, rfl⟩, HN.out, ?_, ?_⟩
    · exact (HU.out.1.mono fun _ _ e => .inr e).trans' HSt.out (fun _ e => .inl (.inl e))
    · intro q hq
      rcases hq with hq | hq
      · exact .inl (.inl hq)
      · rcases HU.out.2 q hq with h1 | h1
        · exact .inl (.inr h1)
        · exact .inr h1
end Go.Proofs.Ytmheofkakcomdaa
