/-
  bodies: the law BodiesPuts, its walk.
-/
import Derived.Test.YtfemeendkjcffaaBq
import Derived.Test.YtfemeendkjcffaaBoD
set_option linter.unusedVariables false
set_option linter.unusedSimpArgs false
namespace Go.Proofs.Ytfemeendkjcffaa
open Go.RowKit

set_option maxRecDepth 100000 in
set_option maxHeartbeats 3200000 in
theorem bpclo_ok (w : World) (X sb : Nat) (S : Nat → Prop) (D : Option Addr) (c : Nat) (bs : List UInt8) (h : Scn w X S D c bs 0) (lo : List (Nat × Nat)) (l : List Ig) (n : Nat) (HN : Hid (n = l.length)) (hnb : n ≤ 100) (hok : ∀ x ∈ l, x.wf ∧ x.err = 0) (hsm : ∀ x ∈ l, x.L.length ≤ 100) (hin : ∀ x ∈ l, x.L.length = x.n ∧ ∀ y ∈ x.L, y < 4294967296) (hlo : lo.length ≤ 1000) (hb : ∀ g ∈ lo, g.1 < 4294967296 ∧ g.2 < 256) (hz1 : locF lo 0 ≠ none) (hz2 : errT lo = 0) (hz3 : shpF l = 0) (rest : List UInt8) (hd : bs = putC lo l ++ rest) (hsb : Blk w sb 79 #[.pointer (some ⟨X, 0, none⟩)]) :
    Calls Try.prog 125 #[.pointer (some ⟨sb, 0, none⟩)] w fun e w' => ∃ D1 c1 D2 c2, e = .returned (.agg (codC (.slice D1 lo.length c1) (.slice D2 n c2))) ∧ Step (fun i => i = X) w w' ∧ ∃ lb, CodTo w.heap.size w' lo l n D1 c1 D2 c2 lb ∧ Scn w' X S D c bs (putC lo l).length := by
  have HG := Lib.hid (fun w' (h' : Scn w' X S D c bs 0) => bget_ok w' X S D c bs 0 h' lo l n HN hnb hok hsm hin hlo hb hz1 hz2 hz3 rest (by rw [List.drop_zero]; exact hd))
  have hxl := h.lt
  have hlow := h.low
  have HH := Lib.hid (h.alloc (.cells #[.slice none 0 0, .slice none 0 0] 176))
  have HB0 := Lib.hid (Blk.new w 176 #[.slice none 0 0, .slice none 0 0])
  have HT0 : Hid (Step (fun i => i = X) w (w.alloc (.cells #[.slice none 0 0, .slice none 0 0] 176))) := Step.refl.alloc _
  have s0 := (hsb.alloc (.cells #[.slice none 0 0, .slice none 0 0] 176)).cell 0
  simp at s0
  have hone : (codC (.slice none 0 0) (.slice none 0 0)).all (·.oneCell') = true := by simp [codC, Value.oneCell']
  obtain ⟨P, hP⟩ : ∃ P, P = (putC lo l).length := ⟨_, rfl⟩
  rw [← hP] at HG ⊢
  clear hsb h hd hP hok hsm hin hb hz1 hz2 hz3
  go_enter Try.func125, Try.ntmps125
  go_wp2_with fail
  refine (HG.out _ HH.out).mono ?_
  rintro e w9 ⟨D1, c1, D2, c2, lb, rfl, hq, hs, ht⟩
  rw [Nat.zero_add] at hs
  have HR9 := Lib.hid (HB0.out.step ht (show w.heap.size ≠ X by omega))
  have HT9 := Lib.hid (HT0.out.trans ht)
  have hbs : w.heap.size ≤ (w.alloc (.cells #[.slice none 0 0, .slice none 0 0] 176)).heap.size := HT0.out.size
  have HQ9 : Hid (CodTo w.heap.size w9 lo l n D1 c1 D2 c2 lb) := hq.turn (fun e D m c s xs _ h => own_base h (fun q hq => Nat.le_trans hbs (own_ge h q hq)))
  have HK9 := Lib.hid hs
  clear hs ht hq HB0 HT0 HH HG hbs s0
  have r0 := HR9.out.cell 0
  have r1 := HR9.out.cell 1
  simp at r0 r1
  have f0 := HR9.out.frozen 0
  have f1 := HR9.out.frozen 1
  obtain ⟨R0, hR0⟩ : ∃ R0, R0 = w.heap.size := ⟨_, rfl⟩
  have HRe := Lib.hid hR0
  rw [← hR0] at HR9 r0 r1 f0 f1 HQ9 ⊢
  have hXR : X < R0 := by omega
  clear hR0 hxl
  obtain ⟨W8, hW8⟩ : ∃ W8, W8 = (w9.setCell ⟨R0, 0, none⟩ (.slice D1 lo.length c1)).setCell ⟨R0, 1, none⟩ (.slice D2 n c2) := ⟨_, rfl⟩
  have HR8 : Hid (Blk W8 R0 176 #[.slice D1 lo.length c1, .slice D2 n c2]) := by
    have hq := (HR9.out.set_ 0 (.slice D1 lo.length c1)).set_ 1 (.slice D2 n c2)
    rw [← hW8] at hq
    simp at hq
    exact hq
  have hS8 : Step (fun q => q = R0) w9 W8 := by
    rw [hW8]
    exact ((Step.refl (F := fun q => q = R0)).setCell (p := ⟨R0, 0, none⟩) (.inl rfl) _).setCell (p := ⟨R0, 1, none⟩) (.inl rfl) _
  have HQ8 : Hid (CodTo R0 W8 lo l n D1 c1 D2 c2 lb) := HQ9.out.turn (fun e D m c s xs he h => own_step h hS8 (fun q hq e2 => by
    have hne : e ≠ 176 := by rcases he with rfl | rfl | rfl <;> decide
    subst e2
    exact own_tag h HR9.out hne hq))
  have HK8 := Lib.hid (HK9.out.step hS8 (show X ≠ R0 by omega) (fun q hq e => by have := hlow q hq; have := HRe.out; omega))
  have HT8 : Hid (Step (fun i => i = X) w W8) := HT9.out.trans' hS8 (fun i hi => .inr (by have := HRe.out; omega))
  have HW8 := Lib.hid hW8
  clear hW8 hS8 HQ9 HK9 HT9 HR9
  go_wp2_with fail
  rw [← HW8.out]
  have q0 := HR8.out.cell 0
  have q1 := HR8.out.cell 1
  simp at q0 q1
  refine bodyPost_ret (v := .agg #[.slice D1 lo.length c1, .slice D2 n c2]) (by simp [results, Try.results125, go_sem, q0, q1]) rfl ?_
  exact ⟨D1, c1, D2, c2, rfl, HT8.out, lb, HRe.out ▸ HQ8.out, HK8.out⟩

set_option maxRecDepth 100000 in
set_option maxHeartbeats 12800000 in
theorem bputs_ok (w : World) (LA IA : Option Addr) (lc n c : Nat) (lo : List (Nat × Nat)) (l : List Ig) (S : Nat → Prop) (HN : Hid (n = l.length)) (l1 : n ≤ 60) (l2 : lo.length ≤ 50) (hwf : ∀ x ∈ l, x.wf) (hin : ∀ x ∈ l, x.L.length = x.n ∧ (∀ y ∈ x.L, y < 4294967296) ∧ Reads w S 1 x.A x.n (u32s x.L)) (hr : Reads w S 4 IA n (igs l)) (hl : Reads w S 2 LA lo.length (lo.flatMap loC)) (hb : ∀ g ∈ lo, g.1 < 4294967296 ∧ g.2 < 256) :
    Calls Try.prog 21 #[.agg #[.slice LA lo.length lc, .slice IA n c]] w fun e w' => e = .returned (.bool true) ∧ Step (fun _ => False) w w' := by
  have hin' : ∀ w', Step (fun _ => False) w w' → ∀ x ∈ l, x.L.length = x.n ∧ (∀ y ∈ x.L, y < 4294967296) ∧ Reads w' S 1 x.A x.n (u32s x.L) := fun w' h x hx => ⟨(hin x hx).1, (hin x hx).2.1, (hin x hx).2.2.step h (fun _ _ => id)⟩
  have hop : ∀ x ∈ l, x.op < 256 := fun x hx => (hwf x hx).1
  have HMu : Hid (∀ w', Step (fun _ => False) w w' → Calls Try.prog 119 #[.agg #[.slice LA lo.length lc, .slice IA n c]] w' fun e w'' => (∃ b, e = .returned (.bool b) ∧ (b = false → ∀ x ∈ l, x.L.length ≤ 100)) ∧ Step (fun _ => False) w' w'') := fun w' h =>
    (much_walk w' LA IA lo.length lc n c l S HN (by omega) (hr.step h (fun _ _ => id))).mono fun e w'' ⟨⟨b, he, hb2⟩, hS⟩ => ⟨⟨b, he, fun h2 x hx => by have h3 := hb2 h2 x hx; have h4 := (hin x hx).1; omega⟩, hS⟩
  have HRr : Hid (∀ w', Step (fun _ => False) w w' → Calls Try.prog 120 #[.agg #[.slice LA lo.length lc, .slice IA n c]] w' fun e w'' => e = .returned (.int .i64 (rgtC lo l : Nat)) ∧ Step (fun _ => False) w' w'') := fun w' h => rright14_walk w' LA IA lc n c lo l S HN (by omega) hop (hr.step h (fun _ _ => id)) (hl.step h (fun _ _ => id)) hb (by omega)
  have HIr : Hid (∀ w', Step (fun _ => False) w w' → Calls Try.prog 122 #[.agg #[.slice LA lo.length lc, .slice IA n c]] w' fun e w'' => e = .returned (.int .i64 (shpC lo l : Nat)) ∧ Step (fun _ => False) w' w'') := fun w' h => bright_walk w' LA IA lc n c lo l S HN (by omega) hop (hr.step h (fun _ _ => id)) (hl.step h (fun _ _ => id)) hb (by omega)
  have HRs : Hid (∀ w', Step (fun _ => False) w w' → Calls Try.prog 123 #[.agg #[.slice LA lo.length lc, .slice IA n c]] w' fun e w'' => e = .returned (.int .i64 (shpC lo l : Nat)) ∧ Step (fun _ => False) w' w'') := fun w' h => rshape14_walk w' LA IA lc n c lo l S HN (by omega) (hr.step h (fun _ _ => id)) (hl.step h (fun _ _ => id)) hb (by omega)
  have HPe : Hid (¬ rgtC lo l = 0 → (∀ x ∈ l, x.L.length ≤ 100) → ∀ w', Step (fun _ => False) w w' → Calls Try.prog 121 #[.agg #[.slice LA lo.length lc, .slice IA n c]] w' fun e w'' => e = .returned (.tuple #[.slice none 0 0, .int .i64 (rgtC lo l : Nat)]) ∧ Step (fun _ => False) w' w'') := fun hz hsm w' h => bput_err w' LA IA lc n c lo l S HN (by omega) hwf hsm (hin' w' h) (hr.step h (fun _ _ => id)) (hl.step h (fun _ _ => id)) hb (by omega) hz
  have HPo : Hid (rgtC lo l = 0 → (∀ x ∈ l, x.L.length ≤ 100) → ∀ w', Step (fun _ => False) w w' → Calls Try.prog 121 #[.agg #[.slice LA lo.length lc, .slice IA n c]] w' fun e w'' => ∃ D c', e = .returned (.tuple #[.slice D (putC lo l).length c', .int .i64 0]) ∧ w''.ownsRow w'.heap.size 5 1 (.slice D (putC lo l).length c') (putC lo l).length (u8s (putC lo l)) ∧ Step (fun _ => False) w' w'') := fun hz hsm w' h => bput_walk w' LA IA lc n c lo l S HN (by omega) hwf hsm (hin' w' h) (hr.step h (fun _ _ => id)) (hl.step h (fun _ _ => id)) hb (by omega) hz
  have HW : Hid (rgtC lo l = 0 → (∀ x ∈ l, x.L.length ≤ 100) → ∀ w', Step (fun _ => False) w w' → Calls Try.prog 127 #[.agg #[.slice LA lo.length lc, .slice IA n c]] w' fun e w'' => e = .returned (.string (str (putC lo l))) ∧ Step (fun _ => False) w' w'') := fun hz hsm w' h => rput14_walk w' LA IA lc n c lo l S HN (by omega) hwf hsm (hin' w' h) (hr.step h (fun _ _ => id)) (hl.step h (fun _ _ => id)) hb (by omega) (rgtC_zero hz).2.2.2
  have HSx : Hid ((∀ x ∈ l, x.L.length ≤ 100) → ∀ w' D1 c1 D2 c2 lb B, Step (fun _ => False) w w' → CodTo B w' lo l n D1 c1 D2 c2 lb → Calls Try.prog 128 #[.agg #[.slice D1 lo.length c1, .slice D2 n c2], .agg #[.slice LA lo.length lc, .slice IA n c]] w' fun e w'' => e = .returned (.bool true) ∧ Step (fun _ => False) w' w'') := fun hsm w' D1 c1 D2 c2 lb B h hq => rsame14_walk w' LA IA D1 D2 lc n c c1 c2 B lo l lb S HN (by omega) (by omega) hsm (hin' w' h) (hr.step h (fun _ _ => id)) (hl.step h (fun _ _ => id)) hq
  have HVl : Hid (rgtC lo l = 0 → (∀ x ∈ l, x.L.length ≤ 100) → ∀ w' X sb S' D' c' M, Scn w' X S' D' c' M 0 → Blk w' sb 79 #[.pointer (some ⟨X, 0, none⟩)] → M = putC lo l ++ [7] → Calls Try.prog 124 #[.func (.func 125) #[] #[.pointer (some ⟨sb, 0, none⟩)]] w' fun e w'' => ∃ D1 c1 D2 c2, e = .returned (.tuple #[.agg #[.slice D1 lo.length c1, .slice D2 n c2], .agg #[.int .i64 0, .int .i64 0]]) ∧
      ∃ wa wb, Step (fun _ => False) w' wa ∧ Step (fun i => i = X) wa wb ∧ (∃ lb, CodTo wa.heap.size wb lo l n D1 c1 D2 c2 lb ∧ Scn wb X S' D' c' M (putC lo l).length) ∧ Step (fun k => w'.heap.size ≤ k ∧ k < wa.heap.size) wb w'') := fun hz hsm w' X sb S' D' c' M hs hsb hM => by
    obtain ⟨z1, z2, z3, z4⟩ := rgtC_zero hz
    exact cvalue_ok 125 #[.pointer (some ⟨sb, 0, none⟩)] w' (fun i => i = X) (fun D1 c1 D2 c2 wa wb => ∃ lb, CodTo wa.heap.size wb lo l n D1 c1 D2 c2 lb ∧ Scn wb X S' D' c' M (putC lo l).length) lo.length n (fun _ => rfl) (fun k hk => hk ▸ hs.lt) (fun w'' ht =>
      bpclo_ok w'' X sb S' D' c' M (hs.quiet ht) lo l n HN (by omega) (fun x hx => ⟨hwf x hx, errI_all l z4 x hx⟩) hsm (fun x hx => ⟨(hin x hx).1, (hin x hx).2.1⟩) (by omega) hb z1 z2 z3 [7] hM (hsb.step ht id))
  have hpl : (∀ x ∈ l, x.L.length ≤ 100) → (putC lo l).length ≤ 200000 := fun hsm => by
    have h1 := inL_len lo l hsm
    rw [← HN.out] at h1
    rw [putC, List.length_append]
    have h2 := num_len (inL lo l).length
    omega
  have HPl := Lib.hid hpl
  obtain ⟨q, hq⟩ : ∃ q, q = lo.length := ⟨_, rfl⟩
  rw [← hq] at HMu HRr HIr HRs HPe HPo HW HSx HVl l2 ⊢
  obtain ⟨Z, hZ⟩ : ∃ Z, Z = putC lo l := ⟨_, rfl⟩
  rw [← hZ] at HPo HW HVl HPl
  obtain ⟨r, hr'⟩ : ∃ r : Nat, r = rgtC lo l := ⟨_, rfl⟩
  rw [← hr'] at HRr HPe HPo HW HVl
  obtain ⟨sh, hsh⟩ : ∃ sh : Int, sh = (shpC lo l : Nat) := ⟨_, rfl⟩
  rw [← hsh] at HIr HRs
  have g1 : ¬ (60 : Int) < (n : Int) := by omega
  have g2 : ¬ (50 : Int) < (q : Int) := by omega
  have g1' : decide ((60 : Int) < (n : Int)) = false := decide_eq_false g1
  have g2' : decide ((50 : Int) < (q : Int)) = false := decide_eq_false g2
  have hss : (sh != sh) = false := by simp
  have HB := Lib.hid (Blk.new w 176 #[.slice LA q lc, .slice IA n c])
  have HT := Lib.hid (Step.refl.alloc (F := fun _ => False) (w := w) (.cells #[.slice LA q lc, .slice IA n c] 176))
  have hmf : ∀ (fn : Fn) (first cap : Array Value) (w : World), (Instr.makeFunc fn first cap).run Try.prog w = .ok (.func fn first cap) w := fun _ _ _ _ => rfl
  clear hq hZ hr' hsh hr hl hin hin' hop hwf hb hpl
  go_enter Try.func21, Try.ntmps21
  go_wp2_with fail
  obtain ⟨W0, hW0⟩ : ∃ W0, W0 = w.alloc (.cells #[.slice LA q lc, .slice IA n c] 176) := ⟨_, rfl⟩
  rw [← hW0] at HB HT ⊢
  obtain ⟨X, hX⟩ : ∃ X, X = w.heap.size := ⟨_, rfl⟩
  rw [← hX] at HB
  simp only [← hX]
  clear hW0 hX
  refine (awake14 _).mono ?_
  rintro e w5 ⟨rfl, hS5⟩
  have HS5 := Lib.hid (HT.out.trans hS5)
  have HB5 := Lib.hid (HB.out.step hS5 id)
  clear hS5 HT HB
  have x0 := HB5.out.cell 0
  have x1 := HB5.out.cell 1
  simp at x0 x1
  go_wp2_with fail
  refine (HMu.out _ HS5.out).mono ?_
  rintro e w6 ⟨⟨b, rfl, hbm⟩, hS6⟩
  have HS6 := Lib.hid (HS5.out.trans hS6)
  have HB6 := Lib.hid (HB5.out.step hS6 id)
  clear hS6 HS5 HB5 x0 x1
  cases b
  rotate_left
  · go_wp2_with fail
    go_ret
    exact ⟨rfl, HS6.out⟩
  have hsm := hbm rfl
  clear hbm
  have HZl : Hid (Z.length ≤ 200000) := HPl.out hsm
  have HSx := Lib.hid (HSx.out hsm)
  have x0 := HB6.out.cell 0
  have x1 := HB6.out.cell 1
  simp at x0 x1
  go_wp2_with fail
  refine (HRr.out _ HS6.out).mono ?_
  rintro e wr6 ⟨rfl, hSr⟩
  have HSr := Lib.hid (HS6.out.trans hSr)
  have HBr := Lib.hid (HB6.out.step hSr id)
  clear hSr HS6 HB6 x0 x1 HMu
  have x0 := HBr.out.cell 0
  have x1 := HBr.out.cell 1
  simp at x0 x1
  go_wp2_with fail
  by_cases hz : r = 0
  rotate_left
  · have HPe := Lib.hid (HPe.out hz hsm)
    have hnb : ((r : Int) != 0) = true := bne_iff_ne.2 (by omega)
    have hrr : ((r : Int) != (r : Int)) = false := by simp
    clear hz hsm
    refine (HPe.out _ HSr.out).mono ?_
    rintro e w7 ⟨rfl, hS7⟩
    have HS7 := Lib.hid (HSr.out.trans hS7)
    have HB7 := Lib.hid (HBr.out.step hS7 id)
    clear hS7 HSr HBr x0 x1
    have x0 := HB7.out.cell 0
    have x1 := HB7.out.cell 1
    simp at x0 x1
    have d0 := cls_cell (F := fun _ => False) (w0 := w7) x0 id
    have d1 := cls_cell (F := fun _ => False) (w0 := w7) x1 id
    go_wp2_with fail
    clear x0 x1
    refine Mix.wp_region_mix [1, 3] [1, 3] (Step (fun _ => False) w7) (by kernel_rfl) (by kernel_rfl) Step.refl.drew (fun hcls => ?_)
    refine Mix.wpL_reads 1 (by rfl) ?_
    simp only [List.take_succ_cons, List.drop_succ_cons, List.take_zero, List.drop_zero]
    repeat (go_big_quiet_step (fail))
    refine wpQuiet_nil ?_
    refine Mix.wpL_op (by rfl) (fun K hK => ?_)
    go_simp
    refine (HIr.out _ (HS7.out.drew)).mono ?_
    rintro e wa ⟨rfl, hSa⟩
    have HSa := Lib.hid (Step.refl.drew.trans hSa)
    refine hK _ _ (fun hlt => Mix.cl HSa.out) ?_
    clear hK K hSa
    refine Mix.wpL_reads 1 (by rfl) ?_
    simp only [List.take_succ_cons, List.drop_succ_cons, List.take_zero, List.drop_zero]
    repeat (go_big_quiet_step (fail))
    refine wpQuiet_nil ?_
    refine Mix.wpL_op (by rfl) (fun K hK => ?_)
    go_simp
    refine (HRs.out _ (HS7.out.trans HSa.out)).mono ?_
    rintro e wb ⟨rfl, hSb⟩
    have HSb := Lib.hid (HSa.out.trans hSb)
    refine hK _ _ (fun hlt => Mix.cl HSb.out) ?_
    clear hK K hSb HSa
    refine Mix.wpL_reads 6 (by rfl) ?_
    simp only [List.take_succ_cons, List.drop_succ_cons, List.take_zero, List.drop_zero]
    repeat (go_big_quiet_step (fail))
    refine wpQuiet_nil ?_
    refine Mix.wpL_end ?_
    clear d0 d1
    go_wp2_with fail
    go_ret
    exact ⟨rfl, HS7.out.trans HSb.out⟩
  have HPo2 := Lib.hid (HPo.out hz hsm)
  have HW2 := Lib.hid (HW.out hz hsm)
  have HVl2 := Lib.hid (HVl.out hz hsm)
  clear HPo HW HVl
  subst hz
  have hrr : ((0 : Int) != 0) = false := by simp
  clear hsm HPe
  refine (HPo2.out _ HSr.out).mono ?_
  rintro e w7 ⟨D7, c7, rfl, hown7, hS7⟩
  have HS7 := Lib.hid (HSr.out.trans hS7)
  have HB7 := Lib.hid (HBr.out.step hS7 id)
  have HO7 := Lib.hid hown7
  clear hS7 HSr HBr x0 x1 hown7 HPo2
  have x0 := HB7.out.cell 0
  have x1 := HB7.out.cell 1
  simp at x0 x1
  have d0 := cls_cell (F := fun _ => False) (w0 := w7) x0 id
  have d1 := cls_cell (F := fun _ => False) (w0 := w7) x1 id
  go_wp2_with fail
  clear x0 x1
  refine Mix.wp_region_mix [1, 3] [1, 3] (Step (fun _ => False) w7) (by kernel_rfl) (by kernel_rfl) Step.refl.drew (fun hcls => ?_)
  refine Mix.wpL_reads 1 (by rfl) ?_
  simp only [List.take_succ_cons, List.drop_succ_cons, List.take_zero, List.drop_zero]
  repeat (go_big_quiet_step (fail))
  refine wpQuiet_nil ?_
  refine Mix.wpL_op (by rfl) (fun K hK => ?_)
  go_simp
  refine (HIr.out _ (HS7.out.drew)).mono ?_
  rintro e wa ⟨rfl, hSa⟩
  have HSa := Lib.hid (Step.refl.drew.trans hSa)
  refine hK _ _ (fun hlt => Mix.cl HSa.out) ?_
  clear hK K hSa
  refine Mix.wpL_reads 1 (by rfl) ?_
  simp only [List.take_succ_cons, List.drop_succ_cons, List.take_zero, List.drop_zero]
  repeat (go_big_quiet_step (fail))
  refine wpQuiet_nil ?_
  refine Mix.wpL_op (by rfl) (fun K hK => ?_)
  go_simp
  refine (HRs.out _ (HS7.out.trans HSa.out)).mono ?_
  rintro e wb ⟨rfl, hSb⟩
  have HSb := Lib.hid (HSa.out.trans hSb)
  refine hK _ _ (fun hlt => Mix.cl HSb.out) ?_
  clear hK K hSb HSa
  refine Mix.wpL_reads 6 (by rfl) ?_
  simp only [List.take_succ_cons, List.drop_succ_cons, List.take_zero, List.drop_zero]
  repeat (go_big_quiet_step (fail))
  refine wpQuiet_nil ?_
  refine Mix.wpL_end ?_
  clear d0 d1
  obtain ⟨T, hT⟩ : ∃ T, T = Z := ⟨_, rfl⟩
  rw [← hT] at HO7 HZl HW2 HVl2 ⊢
  clear hT
  have HO8 := Lib.hid (own_step HO7.out HSb.out (fun _ _ => id))
  have HB8 := Lib.hid (HB7.out.step HSb.out id)
  have HS8 := Lib.hid (HS7.out.trans HSb.out)
  have hfr := own_fresh (w := wb) (e := 5) (base := wb.heap.size) 1 (Nat.le_refl _)
  have hrd := (Reads.of_own HO8.out).step (Step.refl.alloc (F := fun _ => False) (w := wb) (.cells #[] 5)) (fun _ _ => id)
  have hone := u8s_one T
  have hTl := HZl.out
  have hm : 0 + T.length ≤ maxLen := by unfold maxLen; omega
  have hone2 : ∀ u ∈ #[Value.int .u8 7].toList, u.oneCell' = true := by simp [Value.oneCell']
  have hm2 : T.length + 1 ≤ maxLen := by unfold maxLen; omega
  clear HO7 HS7 HSb HB7
  go_wp2_with first
    | (at_builtin; refine wpList_append_src _ rfl _ _ (by rfl) E_u8 (by rfl) hfr (by rfl) hrd hone hm (by omega) (by simp) ?_; intro D9 c9 w9 hown hgrow hat; rw [Nat.zero_add, List.nil_append] at hown; have HO9 := Lib.hid (hown.alloc (.cells #[.int .u8 7] 5)); have HG9 := Lib.hid hgrow; have HW9 := Lib.hid ((grow_step ((Step.refl (F := fun _ => False)).alloc _) hgrow hfr (Nat.le_refl _)).alloc (.cells #[.int .u8 7] 5)); have hrn := reads_new w9 #[Value.int .u8 7] 5 1 1 rfl; clear hown hgrow hat)
    | (at_builtin; refine wpList_append_src _ rfl _ _ (by rfl) E_u8 (by rfl) HO9.out (by rfl) hrn hone2 hm2 (by omega) HW9.out.size ?_; intro D10 c10 w10 hown hgrow hat; have HO10 := Lib.hid hown; have HG10 := Lib.hid hgrow; clear hown hgrow hat)
  have HW10 := Lib.hid (grow_step HW9.out HG10.out HO9.out (Nat.le_refl _))
  have HS10 := Lib.hid (HS8.out.trans HW10.out)
  have HB10 := Lib.hid (HB8.out.step HW10.out id)
  have HT10 := Lib.hid (own_step HO8.out HW10.out (fun _ _ => id))
  obtain ⟨M, hM⟩ : ∃ M, M = T ++ [7] := ⟨_, rfl⟩
  have hMl : T.length + 1 = M.length := by rw [hM, List.length_append]; rfl
  have hrM : ∃ S', Reads w10 S' 1 D10 M.length (u8s M) := by
    have h := Reads.of_own HO10.out
    rw [hMl] at h
    have e7 : u8s T ++ #[Value.int .u8 7].toList = u8s M := by rw [hM, u8s_append]; rfl
    rw [e7] at h
    exact ⟨_, h⟩
  have hM1 : ((M.length : Int) - (T.length : Int)) = 1 := by omega
  have HM1 := Lib.hid hM1
  have HMl := Lib.hid hMl
  have hMb : M.length ≤ 1000000 := by omega
  have HVm := Lib.hid (fun w' X sb S' D' c' h1 h2 => HVl2.out w' X sb S' D' c' M h1 h2 hM)
  clear hM hMl hM1 HO10 HG10 HO9 HG9 HW9 HW10 HO8 HS8 HB8 hfr hrd hone hone2 hrn HVl2 HRr HRs HIr
  rw [HMl.out]
  obtain ⟨Sx, hrM⟩ := hrM
  refine (over_walk _ D10 c10 M _ hrM hMb).mono ?_
  rintro e w11 ⟨Y, S', D', c', rfl, hs11, hY, hS', ht11⟩
  have HB11 := Lib.hid ((HB10.out.step ht11 id).alloc (.cells #[.pointer (some ⟨Y, 0, none⟩)] 79))
  have HT11 := Lib.hid ((own_step HT10.out ht11 (fun _ _ => id)).alloc (.cells #[.pointer (some ⟨Y, 0, none⟩)] 79))
  have HC11 := Lib.hid (hs11.alloc (.cells #[.pointer (some ⟨Y, 0, none⟩)] 79))
  have HP11 := Lib.hid (Blk.new w11 79 #[.pointer (some ⟨Y, 0, none⟩)])
  have HS11 := Lib.hid ((HS10.out.trans ht11).alloc (.cells #[.pointer (some ⟨Y, 0, none⟩)] 79))
  have hYl : Y < w11.heap.size := hs11.lt
  have hlow := HC11.out.low
  have hBY : ∀ q, Value.ownBlock (.slice D7 T.length c7) = some q → q < w10.heap.size := own_lt HT10.out
  have hXY : X ≠ Y := by have := HB10.out.lt; omega
  have hXl := HB11.out.lt
  have n12 : (w11.alloc (.cells #[.pointer (some ⟨Y, 0, none⟩)] 79)).heap.size = w11.heap.size + 1 := by simp
  have hn10 : w10.heap.size ≤ w11.heap.size := ht11.size
  have hww : w.heap.size ≤ w10.heap.size := HS10.out.size
  clear hs11 ht11 hrM HB10 HT10 HS10
  go_wp2_with fail
  refine (HVm.out _ Y w11.heap.size S' D' c' HC11.out HP11.out).mono ?_
  rintro e w12 ⟨D1, c1, D2, c2, rfl, wa, wb', g1, g2, ⟨lb, gQ, gK⟩, g5⟩
  rw [n12] at g5 hXl hlow
  have hwa := g1.size
  rw [n12] at hwa
  have HQ12 : Hid (CodTo wa.heap.size w12 lo l n D1 c1 D2 c2 lb) := gQ.turn (fun e D m c s xs _ h => own_step h g5 (fun q hq hk => by have := own_ge h q hq; omega))
  have HK12 := Lib.hid (gK.step g5 (by omega) (fun q hq hk => by have := hlow q hq; omega))
  have HB12 := Lib.hid (((HB11.out.step g1 id).step g2 hXY).step g5 (by omega))
  have HT12 := Lib.hid (own_step (own_step (own_step HT11.out g1 (fun _ _ => id)) g2 (fun q hq e => by have := hBY q hq; omega)) g5 (fun q hq hk => by have := hBY q hq; omega))
  have HP12 := Lib.hid (((HP11.out.step g1 id).step g2 (show w11.heap.size ≠ Y by omega)).step g5 (by omega))
  have HS12 : Hid (Step (fun _ => False) w w12) := ((HS11.out.trans g1).trans' g2 (fun i hi => .inr (by omega))).trans' g5 (fun i hi => .inr (by omega))
  clear g1 g2 gQ gK g5 HC11 HP11 HB11 HS11 HT11 HVm n12 hwa
  obtain ⟨P6, hP6⟩ : ∃ P6, P6 = w11.heap.size := ⟨_, rfl⟩
  rw [← hP6] at HP12 ⊢
  clear hP6 hYl hlow hn10 hXl
  have HZ12 := Lib.hid ((Blk.new w12 176 #[.slice D1 q c1, .slice D2 n c2]).alloc (.cells #[.int .i64 0, .int .i64 0] 85))
  have HV12 : Hid (Blk ((w12.alloc (.cells #[.slice D1 q c1, .slice D2 n c2] 176)).alloc (.cells #[.int .i64 0, .int .i64 0] 85)) (w12.heap.size + 1) 85 #[.int .i64 0, .int .i64 0]) := by
    have hq := Blk.new (w12.alloc (.cells #[.slice D1 q c1, .slice D2 n c2] 176)) 85 #[.int .i64 0, .int .i64 0]
    rw [show (w12.alloc (.cells #[.slice D1 q c1, .slice D2 n c2] 176)).heap.size = w12.heap.size + 1 by simp] at hq
    exact hq
  go_wp2_with fail
  have hal := (((Step.refl (F := fun _ => False)).alloc (w := w12) (.cells #[.slice D1 q c1, .slice D2 n c2] 176)).alloc (.cells #[.int .i64 0, .int .i64 0] 85))
  obtain ⟨W, hW⟩ : ∃ W, W = (w12.alloc (.cells #[.slice D1 q c1, .slice D2 n c2] 176)).alloc (.cells #[.int .i64 0, .int .i64 0] 85) := ⟨_, rfl⟩
  obtain ⟨Zb, hZb⟩ : ∃ Zb, Zb = w12.heap.size := ⟨_, rfl⟩
  rw [← hW] at HZ12 HV12 hal ⊢
  rw [← hZb] at HZ12 HV12
  simp only [← hZb]
  clear hW hZb
  have HQ13 : Hid (CodTo wa.heap.size W lo l n D1 c1 D2 c2 lb) := HQ12.out.turn (fun e D m c s xs _ h => own_step h hal (fun _ _ => id))
  have HK13 := Lib.hid (HK12.out.quiet hal)
  have HS13 := Lib.hid (HS12.out.trans hal)
  have HT13 := Lib.hid (own_step HT12.out hal (fun _ _ => id))
  have x0 := (HB12.out.step hal id).cell 0
  have x1 := (HB12.out.step hal id).cell 1
  have z0 := HZ12.out.cell 0
  have z1 := HZ12.out.cell 1
  have v0 := HV12.out.cell 0
  have p0 := (HP12.out.step hal id).cell 0
  simp at x0 x1 z0 z1 v0 p0
  have e0 := cls_cell (F := fun _ => False) (w0 := W) x0 id
  have e1 := cls_cell (F := fun _ => False) (w0 := W) x1 id
  have f0 := cls_cell (F := fun _ => False) (w0 := W) z0 id
  have f1 := cls_cell (F := fun _ => False) (w0 := W) z1 id
  have f2 := cls_cell (F := fun _ => False) (w0 := W) v0 id
  have f3 := cls_cell (F := fun _ => False) (w0 := W) p0 id
  have hcv : ∀ i : Mix.Cls (Step (fun _ => False) W), (convert 53 9 (.slice D7 T.length c7)).run Try.prog i.val = .ok (.string (str T)) i.val := fun i => conv_bytes (c := c7) ((Reads.of_own HT13.out).step i.prop (fun _ _ => id))
  have hE : ((str T).toList == (str T).toList) = true := beq_self_eq_true _
  have hM1 := HM1.out
  clear x0 x1 z0 z1 v0 p0 HQ12 HK12 HS12 HT12 HB12 HP12 HZ12 HV12 hal
  refine Mix.wp_region_mix [3, 13, 17] [3, 13, 17] (Step (fun _ => False) W) (by kernel_rfl) (by kernel_rfl) Step.refl.drew (fun hcls => ?_)
  refine Mix.wpL_reads 3 (by rfl) ?_
  simp only [List.take_succ_cons, List.drop_succ_cons, List.take_zero, List.drop_zero]
  repeat (go_big_quiet_step (fail))
  refine wpQuiet_nil ?_
  refine Mix.wpL_op (by rfl) (fun K hK => ?_)
  go_simp
  refine (HW2.out _ HS13.out.drew).mono ?_
  rintro e wd ⟨rfl, hSd⟩
  have HSd := Lib.hid (Step.refl.drew.trans hSd)
  refine hK _ _ (fun hlt => Mix.cl HSd.out) ?_
  clear hK K hSd
  refine Mix.wpL_reads 9 (by rfl) ?_
  simp only [List.take_succ_cons, List.drop_succ_cons, List.take_zero, List.drop_zero]
  repeat (go_big_quiet_step (fail))
  refine wpQuiet_nil ?_
  refine Mix.wpL_op (by rfl) (fun K hK => ?_)
  go_simp
  refine (HSx.out _ D1 c1 D2 c2 lb _ (HS13.out.trans HSd.out) (HQ13.out.turn (fun e D m c s xs _ h => own_step h HSd.out (fun _ _ => id)))).mono ?_
  rintro e we ⟨rfl, hSe⟩
  have HSe := Lib.hid (HSd.out.trans hSe)
  refine hK _ _ (fun hlt => Mix.cl HSe.out) ?_
  clear hK K hSe HSd
  refine Mix.wpL_reads 3 (by rfl) ?_
  simp only [List.take_succ_cons, List.drop_succ_cons, List.take_zero, List.drop_zero]
  repeat (go_big_quiet_step (fail))
  refine wpQuiet_nil ?_
  refine Mix.wpL_op (by rfl) (fun K hK => ?_)
  go_simp
  refine (left_walk _ Y S' D' c' M T.length (HK13.out.quiet HSe.out)).mono ?_
  rintro e wf ⟨rfl, q9, hwf9⟩
  have hq9 : Step (fun _ => False) we wf := by rw [hwf9]; exact Step.refl.drewN q9
  have HSf := Lib.hid (HSe.out.trans hq9)
  refine hK _ _ (fun hlt => Mix.cl HSf.out) ?_
  clear hK K HSe hwf9 hq9
  refine Mix.wpL_reads 3 (by rfl) ?_
  simp only [List.take_succ_cons, List.drop_succ_cons, List.take_zero, List.drop_zero]
  repeat (go_big_quiet_step (fail))
  refine wpQuiet_nil ?_
  refine Mix.wpL_end ?_
  go_wp2_with fail
  go_ret
  exact ⟨rfl, HS13.out.trans HSf.out⟩
end Go.Proofs.Ytfemeendkjcffaa
