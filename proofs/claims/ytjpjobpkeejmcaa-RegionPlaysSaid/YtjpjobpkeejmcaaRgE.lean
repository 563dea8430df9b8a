/-
  region: Sound, Of, Find.
-/
import Derived.Test.YtjpjobpkeejmcaaRgD
import Derived.Test.YtjpjobpkeejmcaaMix
set_option linter.unusedVariables false
set_option linter.unusedSimpArgs false
namespace Go.Proofs.Ytjpjobpkeejmcaa
open Go.RowKit

/-- The place behind all of them. -/
def endE (e : Nat) : List Pc → Nat
  | [] => e
  | p :: l => endE (p.at_ + p.len) l
/-- They lie one behind the other, from a place on, up to another one; none is empty. -/
def snd (sz : Nat) : Nat → List Pc → Prop
  | _, [] => True
  | e, p :: l => 1 ≤ p.len ∧ e ≤ p.at_ ∧ p.at_ + p.len ≤ sz ∧ snd sz (p.at_ + p.len) l
theorem snd_at {sz : Nat} : ∀ (l : List Pc) (e j : Nat) (h : j < l.length), snd sz e l → 1 ≤ l[j].len ∧ endE e (l.take j) ≤ l[j].at_ ∧ l[j].at_ + l[j].len ≤ sz ∧ endE e (l.take (j + 1)) = l[j].at_ + l[j].len
  | p :: l, e, 0, _, hs => ⟨hs.1, hs.2.1, hs.2.2.1, by simp [endE]⟩
  | p :: l, e, j + 1, h, hs => by
    have := snd_at l (p.at_ + p.len) j (by simpa using h) hs.2.2.2
    simpa [endE] using this
theorem snd_all {sz : Nat} : ∀ (l : List Pc) (e : Nat), snd sz e l → ∀ p ∈ l, 1 ≤ p.len ∧ e ≤ p.at_ ∧ p.at_ + p.len ≤ sz
  | [], _, _, p, hp => by cases hp
  | q :: l, e, hs, p, hp => by
    rcases List.mem_cons.1 hp with rfl | hp
    · exact ⟨hs.1, hs.2.1, hs.2.2.1⟩
    · have := snd_all l _ hs.2.2.2 p hp
      have h1 := hs.1
      have h2 := hs.2.1
      exact ⟨this.1, by omega, this.2.2⟩

set_option maxRecDepth 100000 in
set_option maxHeartbeats 3200000 in
theorem sound_walk (w : World) (X : Nat) (A : Option Addr) (c fm sz B : Nat) (ps : List Pc) (h : Rm w X A c fm sz B ps) (hs : snd sz fm ps) (hz : sz ≤ 1073741824) (hn : ps.length ≤ 1000000) :
    Calls Try.prog 9 #[.pointer (some ⟨X, 0, none⟩)] w fun e w' => e = .returned (.bool true) ∧ Step (fun _ => False) w w' := by
  have HH := Lib.hid h
  have HR := Lib.hid h.rd
  have x0 := h.c0
  have x2 := h.c2
  have HS := Lib.hid hs
  clear h hs
  obtain ⟨n, hnn⟩ : ∃ n, n = ps.length := ⟨_, rfl⟩
  rw [← hnn] at x2 hn HR
  have HN := Lib.hid hnn
  clear hnn
  go_enter Try.func9, Try.ntmps9
  go_wp2_with fail
  go_loopw [3, 15] (fun sv iv wr => ∃ (j : Nat), j ≤ n ∧ sv = .int .i64 ((endE fm (ps.take j) : Nat) : Int) ∧ iv = .int .i64 (j : Int) ∧ Hid (Step (fun _ => False) w wr)) (fun _ iv _ => n + 1 - (intOf iv).toNat)
  case atStart => exact ⟨0, by omega, rfl, rfl, Step.refl⟩
  case round =>
    obtain ⟨j, hj, rfl, rfl, HSj⟩ := hrel
    clear x0 x2
    by_cases hlt : j < n
    · have g1 : (j : Int) < (n : Int) := by omega
      have i0 : (0 : Int) ≤ (j : Int) := by omega
      have hw1 := IntWalk.i64_in ((j : Int) + 1) (by omega)
      have hjl : j < ps.length := by rw [← HN.out]; exact hlt
      obtain ⟨bk, off, rfl, _, hbl, hc⟩ := reads_row Pc.cells 3 (by decide) Pc.three (HR.out.step HSj.out (fun _ _ => id)) (k := j) hjl
      obtain ⟨s1, s2, s3, s4⟩ := snd_at ps fm j hjl HS.out
      have HE := Lib.hid s4
      clear s4
      generalize ps[j] = p at hc s1 s2 s3 HE
      obtain ⟨a, l, o⟩ := p
      generalize endE fm (ps.take j) = ej at s2 ⊢
      have c0 := hc 0 _ rfl
      have c1 := hc 1 _ rfl
      have c2 := hc 2 _ rfl
      simp only [Nat.add_zero] at c0 c1 c2 s1 s2 s3 HE
      have HP : Hid (∀ w, Calls Try.prog 25 #[.agg #[.int .i64 (a : Int), .int .i64 (l : Int), .int .i64 o]] w fun e w' => e = .returned (.int .i64 ((a + l : Nat) : Int)) ∧ Step (fun _ => False) w w') := fun w => pend_walk w a l o (by omega)
      have d1 : ¬ (l : Int) < 1 := by omega
      have d1' : decide ((l : Int) < 1) = false := decide_eq_false d1
      have d2 : ¬ (a : Int) < (ej : Int) := by omega
      have d2' : decide ((a : Int) < (ej : Int)) = false := decide_eq_false d2
      have d2n : ¬ a < ej := by omega
      have d2m : decide (a < ej) = false := decide_eq_false d2n
      obtain ⟨q, hq⟩ : ∃ q, q = a + l := ⟨_, rfl⟩
      rw [← hq] at HP s3 HE
      have d3 : ¬ (sz : Int) < (q : Int) := by omega
      have d3' : decide ((sz : Int) < (q : Int)) = false := decide_eq_false d3
      have d3n : ¬ sz < q := by omega
      have d3m : decide (sz < q) = false := decide_eq_false d3n
      clear hc s1 s2 s3 hq
      have HB := Lib.hid (Blk.new wr 47 #[.int .i64 (a : Int), .int .i64 (l : Int), .int .i64 o])
      have HX := Lib.hid (HH.out.quiet (HSj.out.alloc (.cells #[.int .i64 (a : Int), .int .i64 (l : Int), .int .i64 o] 47)))
      have HT := Lib.hid (HSj.out.alloc (.cells #[.int .i64 (a : Int), .int .i64 (l : Int), .int .i64 o] 47))
      go_wp2_with fail
      obtain ⟨N, hN⟩ : ∃ N, N = wr.heap.size := ⟨_, rfl⟩
      obtain ⟨V, hV⟩ : ∃ V, V = wr.alloc (.cells #[.int .i64 (a : Int), .int .i64 (l : Int), .int .i64 o] 47) := ⟨_, rfl⟩
      rw [← hN] at HB ⊢
      rw [← hV] at HB HX HT ⊢
      clear hN hV c0 c1 c2
      have y0 := HB.out.cell 0
      have y1 := HB.out.cell 1
      have y2 := HB.out.cell 2
      simp at y0 y1 y2
      have x1 := HX.out.c1
      have e0 := cls_cell (F := fun _ => False) (w0 := V) y0 id
      have e1 := cls_cell (F := fun _ => False) (w0 := V) y1 id
      have e2 := cls_cell (F := fun _ => False) (w0 := V) y2 id
      have e3 := cls_cell (F := fun _ => False) (w0 := V) x1 id
      clear y0 y1 y2 x1
      refine Mix.wp_region_mix [11] [11] (Step (fun _ => False) V) (by kernel_rfl) (by kernel_rfl) Step.refl.drew (fun hcls => ?_)
      refine Mix.wpL_reads 11 (by rfl) ?_
      simp only [List.take_succ_cons, List.drop_succ_cons, List.take_zero, List.drop_zero]
      repeat (go_big_quiet_step (fail))
      refine wpQuiet_nil ?_
      refine Mix.wpL_op (by rfl) (fun K hK => ?_)
      go_simp
      refine (HP.out _).mono ?_
      rintro e wd ⟨rfl, hSd⟩
      have HSd := Lib.hid (Step.refl.drew.trans hSd)
      refine hK _ _ (fun hlt => Mix.cl HSd.out) ?_
      clear hK K hSd
      refine Mix.wpL_reads 6 (by rfl) ?_
      simp only [List.take_succ_cons, List.drop_succ_cons, List.take_zero, List.drop_zero]
      repeat (go_big_quiet_step (fail))
      refine wpQuiet_nil ?_
      refine Mix.wpL_end ?_
      have HB2 := Lib.hid (HB.out.step HSd.out id)
      have y0 := HB2.out.cell 0
      have y1 := HB2.out.cell 1
      have y2 := HB2.out.cell 2
      simp at y0 y1 y2
      go_wp2_with fail
      refine (HP.out _).mono ?_
      rintro e we ⟨rfl, hSe⟩
      have HSe := Lib.hid ((HT.out.trans HSd.out).trans hSe)
      clear hSe
      go_wp2_with fail
      go_roundw
      case rel => exact ⟨j + 1, by omega, by rw [HE.out], by rw [Int.natCast_add]; rfl, HSe⟩
      case measure => simp [intOf]; omega
    · obtain rfl : j = n := by omega
      go_wp2_with fail
      go_ret
      exact ⟨rfl, HSj.out⟩

set_option maxRecDepth 100000 in
set_option maxHeartbeats 3200000 in
theorem of_walk (w : World) (X : Nat) (A : Option Addr) (c fm sz B : Nat) (ps : List Pc) (h : Rm w X A c fm sz B ps) (hn : ps.length ≤ 1000000) (ow : Int) :
    Calls Try.prog 16 #[.pointer (some ⟨X, 0, none⟩), .int .i64 ow] w fun e w' => ∃ D' c', e = .returned (.slice D' (ps.filter fun p => p.ow == ow).length c') ∧
      w'.ownsRow w.heap.size 47 3 (.slice D' (ps.filter fun p => p.ow == ow).length c') (ps.filter fun p => p.ow == ow).length (pcs (ps.filter fun p => p.ow == ow)) ∧ Step (fun _ => False) w w' := by
  have x2 := h.c2
  have HR := Lib.hid h.rd
  clear h
  obtain ⟨n, hnn⟩ : ∃ n, n = ps.length := ⟨_, rfl⟩
  rw [← hnn] at x2 hn HR
  have HN := Lib.hid hnn
  clear hnn
  go_enter Try.func16, Try.ntmps16
  go_wp2_with fail
  go_loopw [5, 13] (fun ov iv wr => ∃ (j m c2 : Nat) (D2 : Option Addr), j ≤ n ∧ ov = .slice D2 m c2 ∧ iv = .int .i64 (j : Int) ∧ Hid (m = ((ps.take j).filter fun p => p.ow == ow).length ∧ m ≤ j) ∧ Hid (wr.ownsRow w.heap.size 47 3 (.slice D2 m c2) m (pcs ((ps.take j).filter fun p => p.ow == ow))) ∧ Hid (Step (fun _ => False) w wr)) (fun _ iv _ => n + 1 - (intOf iv).toNat)
  case atStart => exact ⟨0, 0, 0, none, by omega, rfl, rfl, ⟨rfl, by omega⟩, World.ownsRow_nil _ _ _ _, Step.refl⟩
  case round =>
    obtain ⟨j, m, c2, D2, hj, rfl, rfl, HM, HO, HSj⟩ := hrel
    clear x2
    by_cases hlt : j < n
    · have g1 : (j : Int) < (n : Int) := by omega
      have i0 : (0 : Int) ≤ (j : Int) := by omega
      have hw1 := IntWalk.i64_in ((j : Int) + 1) (by omega)
      have hjl : j < ps.length := by rw [← HN.out]; exact hlt
      obtain ⟨bk, off, rfl, _, hbl, hc⟩ := reads_row Pc.cells 3 (by decide) Pc.three (HR.out.step HSj.out (fun _ _ => id)) (k := j) hjl
      have HT : Hid ((ps.take (j + 1)).filter (fun p => p.ow == ow) = (ps.take j).filter (fun p => p.ow == ow) ++ (if ps[j].ow == ow then [ps[j]] else [])) := by
        rw [Hid, List.take_succ_eq_append_getElem hjl, List.filter_append, List.filter_cons, List.filter_nil]
      have hmj := HM.out.2
      generalize ps[j] = p at hc HT
      obtain ⟨a, l, o⟩ := p
      have c0 := hc 0 _ rfl
      have c1 := hc 1 _ rfl
      have c2' := hc 2 _ rfl
      simp only [Nat.add_zero] at c0 c1 c2' HT
      clear hc
      by_cases ho : o = ow
      · subst ho
        have hob : (o == o) = true := beq_self_eq_true o
        rw [if_pos hob] at HT
        have HB := Lib.hid (Blk.new wr 47 #[.int .i64 (a : Int), .int .i64 (l : Int), .int .i64 o])
        have hOa := (HO.out.alloc (.cells #[.int .i64 (a : Int), .int .i64 (l : Int), .int .i64 o] 47)).alloc (.cells #[.int .i64 (a : Int), .int .i64 (l : Int), .int .i64 o] 47)
        have hrn := reads_new (wr.alloc (.cells #[.int .i64 (a : Int), .int .i64 (l : Int), .int .i64 o] 47)) #[Value.int .i64 (a : Int), .int .i64 (l : Int), .int .i64 o] 47 3 1 rfl
        have hsz0 : (wr.alloc (.cells #[.int .i64 (a : Int), .int .i64 (l : Int), .int .i64 o] 47)).heap.size = wr.heap.size + 1 := by simp
        rw [hsz0] at hrn
        have hone : ∀ u ∈ #[Value.int .i64 (a : Int), .int .i64 (l : Int), .int .i64 o].toList, u.oneCell' = true := by simp [Value.oneCell']
        have hm1 : m + 1 ≤ maxLen := by unfold maxLen; omega
        have hsz : w.heap.size ≤ ((wr.alloc (.cells #[.int .i64 (a : Int), .int .i64 (l : Int), .int .i64 o] 47)).alloc (.cells #[.int .i64 (a : Int), .int .i64 (l : Int), .int .i64 o] 47)).heap.size := ((HSj.out.alloc _).alloc _).size
        go_wp2_with (at_builtin; refine wpList_append_src _ rfl _ _ (by rfl) E_pc (by rfl) hOa (by rfl) hrn hone hm1 (by omega) hsz ?_; intro D3 c3 w3 hown hgrow hat)
        have hDge : ∀ q, blkOf D2 = some q → w.heap.size ≤ q := fun q hq => own_ge HO.out q (by rw [ownBlock_slice]; exact hq)
        have HT3 := Lib.hid (((HSj.out.alloc _).alloc _).grown hgrow (fun q hq => .inr (hDge q hq)))
        have hus : pcs ((ps.take j).filter fun p => p.ow == o) ++ #[Value.int .i64 (a : Int), .int .i64 (l : Int), .int .i64 o].toList = pcs ((ps.take (j + 1)).filter fun p => p.ow == o) := by rw [HT.out, pcs_append]; rfl
        rw [hus] at hown
        have HM3 : Hid (m + 1 = ((ps.take (j + 1)).filter fun p => p.ow == o).length ∧ m + 1 ≤ j + 1) := ⟨by rw [HT.out, List.length_append, ← HM.out.1]; rfl, by omega⟩
        go_roundw
        case rel => exact ⟨j + 1, m + 1, c3, D3, by omega, rfl, by rw [Int.natCast_add]; rfl, HM3, hown, HT3⟩
        case measure => simp [intOf]; omega
      · have hob : (o == ow) = false := by simpa using ho
        have hnb : ¬ (o == ow) = true := by rw [hob]; decide
        rw [if_neg hnb, List.append_nil] at HT
        go_wp2_with fail
        have HM3 : Hid (m = ((ps.take (j + 1)).filter fun p => p.ow == ow).length ∧ m ≤ j + 1) := ⟨by rw [HT.out]; exact HM.out.1, by omega⟩
        go_roundw
        case rel => exact ⟨j + 1, m, c2, D2, by omega, rfl, by rw [Int.natCast_add]; rfl, HM3, by rw [HT.out]; exact HO.out.alloc _, HSj.out.alloc _⟩
        case measure => simp [intOf]; omega
    · obtain rfl : j = n := by omega
      have hLt : ps.take j = ps := by rw [HN.out]; exact List.take_length
      rw [hLt] at HM HO
      go_wp2_with fail
      go_ret
      have e1 := HM.out.1
      have e2 := HO.out
      rw [e1] at e2
      exact ⟨D2, c2, by rw [← e1]; rfl, e2, HSj.out⟩
end Go.Proofs.Ytjpjobpkeejmcaa
