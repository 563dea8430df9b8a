/-
  RlL: RlX, RlY.
-/
import Derived.Test.YtfemeendkjcffaaRlV
import Derived.Test.YtfemeendkjcffaaRga
import Derived.Test.YtfemeendkjcffaaReW
import Derived.Test.YtfemeendkjcffaaEbb
set_option linter.unusedVariables false
set_option linter.unusedSimpArgs false
/-! The reference's rows of functions answer as the program's: the plain law. -/
namespace Go.Proofs.Ytfemeendkjcffaa
open Go.RowKit

theorem rcnt_stop (bs : List UInt8) (s : Rst) (h : ¬ s.y = 0) : rcntF bs s = (0, s) := by
  have h1 : rcntS bs s = s := by rw [rcntS, ridx_stop bs s h, fail_stop s h, ite_self]
  rw [rcntF, h1, if_neg h]
theorem relm_tel (bs : List UInt8) (k a : Nat) : Tel (elmF bs k) id a (relmF bs ⟨k, 0, a⟩) := by
  have h := rno_tel bs k a
  rw [elmF, relmF]
  cases hr : byF bs k with
  | er y b =>
    rw [hr] at h
    obtain ⟨h1, h2, h3⟩ := h
    have h0 : ¬ (rnoF bs ⟨k, 0, a⟩).y = 0 := by rw [h2]; exact h1
    have e1 := rcgF_stop bs _ h0
    have h4 : ¬ (rcgF bs (rnoF bs ⟨k, 0, a⟩)).2.y = 0 := by rw [e1]; exact h0
    have e2 := rcnt_stop bs _ h4
    have e3 : (rlabF bs (rcntF bs (rcgF bs (rnoF bs ⟨k, 0, a⟩)).2).1 (rcntF bs (rcgF bs (rnoF bs ⟨k, 0, a⟩)).2).2).2 = rnoF bs ⟨k, 0, a⟩ := by
      rw [e2]
      dsimp only
      rw [rlab_stop _ _ _ h4, e1]
    refine ⟨h1, ?_, ?_⟩
    · dsimp only; rw [e3]; exact h2
    · dsimp only; rw [e3]; exact h3
  | ok z k1 =>
    rw [hr] at h
    dsimp only at h ⊢
    by_cases hz : z = 0
    rotate_left
    · rw [if_neg hz] at h ⊢
      obtain ⟨h2, h3⟩ := h
      have h0 : ¬ (rnoF bs ⟨k, 0, a⟩).y = 0 := by rw [h2]; decide
      have e1 := rcgF_stop bs _ h0
      have h4 : ¬ (rcgF bs (rnoF bs ⟨k, 0, a⟩)).2.y = 0 := by rw [e1]; exact h0
      have e2 := rcnt_stop bs _ h4
      have e3 : (rlabF bs (rcntF bs (rcgF bs (rnoF bs ⟨k, 0, a⟩)).2).1 (rcntF bs (rcgF bs (rnoF bs ⟨k, 0, a⟩)).2).2).2 = rnoF bs ⟨k, 0, a⟩ := by
        rw [e2]
        dsimp only
        rw [rlab_stop _ _ _ h4, e1]
      refine ⟨by decide, ?_, ?_⟩
      · dsimp only; rw [e3]; exact h2
      · dsimp only; rw [e3]; exact h3
    rw [if_pos hz] at h ⊢
    rw [h]
    have h2 := rcget_tel bs k1 a
    cases hb : creF bs k1 with
    | er y b =>
      rw [hb] at h2
      obtain ⟨g1, g2, g3, g4⟩ := h2
      have h4 : ¬ (rcgF bs ⟨k1, 0, a⟩).2.y = 0 := by rw [g3]; exact g1
      have e2 := rcnt_stop bs _ h4
      have e3 : (rlabF bs (rcntF bs (rcgF bs ⟨k1, 0, a⟩).2).1 (rcntF bs (rcgF bs ⟨k1, 0, a⟩).2).2).2 = (rcgF bs ⟨k1, 0, a⟩).2 := by
        rw [e2]
        dsimp only
        rw [rlab_stop _ _ _ h4]
      refine ⟨g1, ?_, ?_⟩
      · dsimp only; rw [e3]; exact g3
      · dsimp only; rw [e3]; exact g4
    | ok x k2 =>
      rw [hb] at h2
      rw [show rcgF bs ⟨k1, 0, a⟩ = ((x.1, x.2, 0, 0), ⟨k2, 0, a⟩) from h2]
      dsimp only
      have h5 := rcnt_tel bs k2 a
      cases hi : cntF bs k2 with
      | er y b =>
        rw [hi] at h5
        obtain ⟨g1, g2, g3⟩ := h5
        have h4 : ¬ (rcntF bs ⟨k2, 0, a⟩).2.y = 0 := by rw [g2]; exact g1
        refine ⟨g1, ?_, ?_⟩
        · dsimp only; rw [rlab_stop _ _ _ h4]; exact g2
        · dsimp only; rw [rlab_stop _ _ _ h4]; exact g3
      | ok n k3 =>
        rw [hi] at h5
        rw [show rcntF bs ⟨k2, 0, a⟩ = (n, ⟨k3, 0, a⟩) from h5]
        dsimp only
        have h6 := rlab_tel bs a n k3
        cases hl : labsF bs n k3 with
        | er y b =>
          rw [hl] at h6
          exact h6
        | ok L k4 =>
          rw [hl] at h6
          rw [show rlabF bs n ⟨k3, 0, a⟩ = (L, ⟨k4, 0, a⟩) from h6]
          rfl
end Go.Proofs.Ytfemeendkjcffaa
/-! elems: the law ElemsReads, its walk (printed by gen_rey.py). -/
namespace Go.Proofs.Ytfemeendkjcffaa
open Go.RowKit

set_option maxRecDepth 100000 in
set_option maxHeartbeats 1600000 in
theorem erclo_any (w : World) (X sb : Nat) (S : Nat → Prop) (D : Option Addr) (c : Nat) (bs : List UInt8) (k : Nat) (h : Scn w X S D c bs k) (hsb : Blk w sb 79 #[.pointer (some ⟨X, 0, none⟩)]) :
    Calls Try.prog 97 #[.pointer (some ⟨sb, 0, none⟩)] w (ElsR X w (allF (elmF bs) bs k)) := by
  have HG := Lib.hid (egall_any w X S D c bs k h)
  have s0 := hsb.cell 0
  simp at s0
  clear hsb h
  generalize allF (elmF bs) bs k = RR at HG ⊢
  cases RR with
  | er y a =>
    show Calls Try.prog 97 #[.pointer (some ⟨sb, 0, none⟩)] w fun e w' => e = .panicked (stopP (y : Int) (a : Int)) ∧ Step (fun i => i = X) w w'
    go_enter Try.func97, Try.ntmps97
    go_wp2_with fail
    refine HG.out.mono ?_
    rintro e w1 ⟨rfl, ht⟩
    exact ⟨rfl, rfl, ht⟩
  | ok l k1 =>
    go_enter Try.func97, Try.ntmps97
    go_wp2_with fail
    refine HG.out.mono ?_
    rintro e w1 ⟨l', D', c', hsh, rfl, hown, hin, ht⟩
    go_wp2_with fail
    go_ret
    exact ⟨l', D', c', hsh, rfl, hown, hin, ht⟩

set_option maxRecDepth 100000 in
set_option maxHeartbeats 1600000 in
theorem ereads_big (w : World) (D : Option Addr) (c n : Nat) (h : (600 : Int) < (n : Int)) :
    Calls Try.prog 16 #[.slice D n c] w fun e w' => e = .returned (.bool true) ∧ Step (fun _ => False) w w' := by
  have h' : decide ((600 : Int) < (n : Int)) = true := decide_eq_true h
  go_enter Try.func16, Try.ntmps16
  go_wp2_with fail
  refine (awake13 _).mono ?_
  rintro e w5 ⟨rfl, hS5⟩
  go_wp2_with fail
  go_ret
  exact ⟨rfl, hS5⟩

set_option maxRecDepth 100000 in
set_option maxHeartbeats 3200000 in
theorem ereads_er (w : World) (D : Option Addr) (c : Nat) (bs : List UInt8) (S : Nat → Prop) (hlow : ∀ j, S j → j < w.heap.size) (hr : Reads w S 1 D bs.length (u8s bs)) (h : bs.length ≤ 600) (y b : Nat) (hc : allF (elmF bs) bs 0 = .er y b) :
    Calls Try.prog 16 #[.slice D bs.length c] w fun e w' => e = .returned (.bool true) ∧ Step (fun _ => False) w w' := by
  have hl : ¬ (600 : Int) < (bs.length : Int) := by omega
  have hl' : decide ((600 : Int) < (bs.length : Int)) = false := decide_eq_false hl
  have HR := Lib.hid hr
  have ht := rall_tel bs 0 (relm_tel bs · 0) 0
  rw [hc] at ht
  obtain ⟨hy, ht2, ht3⟩ := ht
  have hyb : ((y : Int) == 0) = false := by simp; omega
  have hyn : ((y : Int) != 0) = true := bne_iff_ne.2 (by omega)
  have HC := Lib.hid hc
  have HT2 := Lib.hid ht2
  have HT3 := Lib.hid ht3
  clear hr hy hc ht2 ht3
  go_enter Try.func16, Try.ntmps16
  go_wp2_with fail
  refine (awake13 _).mono ?_
  rintro e w5 ⟨rfl, hS5⟩
  have HR5 := Lib.hid (HR.out.step hS5 (fun _ _ => id))
  have hn5 := hS5.size
  go_wp2_with fail
  refine (over_walk _ D c bs S HR5.out (by omega)).mono ?_
  rintro e w6 ⟨Y, S', D', c', rfl, hs6, hY, hS', ht6⟩
  have hYl := hs6.lt
  have hlow6 := hs6.low
  have hsz6 : w.heap.size ≤ w6.heap.size := Nat.le_trans hn5 ht6.size
  have HA7 := Lib.hid (((hS5.trans ht6).alloc (.cells #[.slice D bs.length c, .int .i64 0, .int .i64 0, .int .i64 0] 83)).alloc (.cells #[.pointer (some ⟨Y, 0, none⟩)] 79))
  have HZ7 : Hid (Rf ((w6.alloc (.cells #[.slice D bs.length c, .int .i64 0, .int .i64 0, .int .i64 0] 83)).alloc (.cells #[.pointer (some ⟨Y, 0, none⟩)] 79)) w6.heap.size S D c bs ⟨0, 0, 0⟩) :=
    ⟨(Blk.new w6 83 #[.slice D bs.length c, .int .i64 0, .int .i64 0, .int .i64 0]).alloc _, (HR5.out.step ht6 (fun _ _ => id)).step ((Step.refl (F := fun _ => False)).alloc _ |>.alloc _) (fun _ _ => id),
      fun hs => by have := hlow _ hs; omega, Nat.zero_le _, by omega, fun j hj => by have := hlow j hj; simp; omega⟩
  have HY7 := Lib.hid ((hs6.alloc (.cells #[.slice D bs.length c, .int .i64 0, .int .i64 0, .int .i64 0] 83)).alloc (.cells #[.pointer (some ⟨Y, 0, none⟩)] 79))
  have HP7 : Hid (Blk ((w6.alloc (.cells #[.slice D bs.length c, .int .i64 0, .int .i64 0, .int .i64 0] 83)).alloc (.cells #[.pointer (some ⟨Y, 0, none⟩)] 79)) (w6.heap.size + 1) 79 #[.pointer (some ⟨Y, 0, none⟩)]) := by
    have h9 := Blk.new (w6.alloc (.cells #[.slice D bs.length c, .int .i64 0, .int .i64 0, .int .i64 0] 83)) 79 #[.pointer (some ⟨Y, 0, none⟩)]
    rw [show (w6.alloc (.cells #[.slice D bs.length c, .int .i64 0, .int .i64 0, .int .i64 0] 83)).heap.size = w6.heap.size + 1 by simp] at h9
    exact h9
  go_wp2_with fail
  obtain ⟨W7, hW7⟩ : ∃ W7, W7 = (w6.alloc (.cells #[.slice D bs.length c, .int .i64 0, .int .i64 0, .int .i64 0] 83)).alloc (.cells #[.pointer (some ⟨Y, 0, none⟩)] 79) := ⟨_, rfl⟩
  obtain ⟨Z, hZ⟩ : ∃ Z, Z = w6.heap.size := ⟨_, rfl⟩
  rw [← hW7] at HZ7 HY7 HP7 HA7 ⊢
  rw [← hZ] at hsz6 HZ7 HP7 hYl hlow6 ⊢
  have hZ7 := HZ7.out.lt
  have hYZ : Y ≠ Z := by omega
  clear hW7 hZ hs6
  refine (elvalue_err 97 #[.pointer (some ⟨Z + 1, 0, none⟩)] W7 (fun i => i = Y) (fun _ _ => True) (y : Int) (b : Int) (fun _ => rfl) hyb (fun k hk => hk ▸ HY7.out.lt) (fun w' h' => by
    have h9 := erclo_any w' Y (Z + 1) S' D' c' bs 0 (HY7.out.quiet h') (HP7.out.step h' id)
    rw [HC.out] at h9
    exact h9.mono fun e w'' ⟨h1, h2⟩ => ⟨h1, h2, trivial⟩)).mono ?_
  rintro e w8 ⟨rfl, wa, wb, s1, s2, _, s3⟩
  have hlowZ := HZ7.out.low
  have hwa := s1.size
  have hA7s := HA7.out.size
  have HA8 := Lib.hid (((HA7.out.trans s1).trans' s2 (fun i hi => .inr (by omega))).trans' s3 (fun i hi => .inr (by omega)))
  have HZ8 := Lib.hid (((HZ7.out.quiet s1).step s2 (Ne.symm hYZ) (fun j hj e => by have := hlow j hj; have := hY; omega)).step s3 (fun hk => by omega) (fun j hj hk => by have := hlowZ j hj; omega))
  clear s1 s2 s3
  go_wp2_with fail
  have hZ8 := HZ8.out.lt
  have HT8 := Lib.hid (Blk.new w8 85 #[.int .i64 (y : Int), .int .i64 (b : Int)])
  refine (regall_walk _ Z S D c bs _ (HZ8.out.alloc _)).mono ?_
  rintro e w9 ⟨l2, D2, c2, hsh2, rfl, hown2, hin2, hs9, ht9⟩
  have hl2 : l2.length = 0 ∨ True := .inr trivial
  obtain ⟨T, hT⟩ : ∃ T, T = w8.heap.size := ⟨_, rfl⟩
  rw [← hT] at HT8 hZ8 ⊢
  have HA9 := Lib.hid ((HA8.out.alloc _).trans' ht9 (fun i hi => .inr (by omega)))
  have HT9 := Lib.hid (HT8.out.step ht9 (show T ≠ Z by omega))
  have HZ9 := Lib.hid hs9
  obtain ⟨n2, hn2⟩ : ∃ n2, n2 = l2.length := ⟨_, rfl⟩
  rw [← hn2]
  clear hs9 ht9 HT8 hT HZ8 hl2 hsh2 hown2 hin2 hn2
  have x2 := HZ9.out.c2
  have x3 := HZ9.out.c3
  rw [HT2.out] at x2
  rw [HT3.out] at x3
  have z0 := HT9.out.cell 0
  have z1 := HT9.out.cell 1
  simp at z0 z1
  go_wp2_with fail
  go_quiet (fail)
  go_wp2_with fail
  go_ret
  exact ⟨rfl, HA9.out.drewN _⟩

set_option maxRecDepth 100000 in
set_option maxHeartbeats 6400000 in
theorem ereads_ok (w : World) (D : Option Addr) (c : Nat) (bs : List UInt8) (S : Nat → Prop) (hlow : ∀ j, S j → j < w.heap.size) (hr : Reads w S 1 D bs.length (u8s bs)) (h : bs.length ≤ 600) (l : List El) (k1 : Nat) (hc : allF (elmF bs) bs 0 = .ok l k1) :
    Calls Try.prog 16 #[.slice D bs.length c] w fun e w' => e = .returned (.bool true) ∧ Step (fun _ => False) w w' := by
  have hl : ¬ (600 : Int) < (bs.length : Int) := by omega
  have hl' : decide ((600 : Int) < (bs.length : Int)) = false := decide_eq_false hl
  have HR := Lib.hid hr
  have ht := rall_tel bs 0 (relm_tel bs · 0) 0
  rw [hc] at ht
  have HC := Lib.hid hc
  obtain ⟨hll, hz⟩ := allF_all elmF_zero hc
  have HT := Lib.hid ht
  have HZZ := Lib.hid hz
  obtain ⟨n, hn⟩ : ∃ n, n = l.length := ⟨_, rfl⟩
  rw [← hn] at hll
  have HN := Lib.hid hn
  clear hr hc ht hz
  go_enter Try.func16, Try.ntmps16
  go_wp2_with fail
  refine (awake13 _).mono ?_
  rintro e w5 ⟨rfl, hS5⟩
  have HR5 := Lib.hid (HR.out.step hS5 (fun _ _ => id))
  have hn5 := hS5.size
  go_wp2_with fail
  refine (over_walk _ D c bs S HR5.out (by omega)).mono ?_
  rintro e w6 ⟨Y, S', D', c', rfl, hs6, hY, hS', ht6⟩
  have hYl := hs6.lt
  have hlow6 := hs6.low
  have hsz6 : w.heap.size ≤ w6.heap.size := Nat.le_trans hn5 ht6.size
  have HA7 := Lib.hid (((hS5.trans ht6).alloc (.cells #[.slice D bs.length c, .int .i64 0, .int .i64 0, .int .i64 0] 83)).alloc (.cells #[.pointer (some ⟨Y, 0, none⟩)] 79))
  have HZ7 : Hid (Rf ((w6.alloc (.cells #[.slice D bs.length c, .int .i64 0, .int .i64 0, .int .i64 0] 83)).alloc (.cells #[.pointer (some ⟨Y, 0, none⟩)] 79)) w6.heap.size S D c bs ⟨0, 0, 0⟩) :=
    ⟨(Blk.new w6 83 #[.slice D bs.length c, .int .i64 0, .int .i64 0, .int .i64 0]).alloc _, (HR5.out.step ht6 (fun _ _ => id)).step ((Step.refl (F := fun _ => False)).alloc _ |>.alloc _) (fun _ _ => id),
      fun hs => by have := hlow _ hs; omega, Nat.zero_le _, by omega, fun j hj => by have := hlow j hj; simp; omega⟩
  have HY7 := Lib.hid ((hs6.alloc (.cells #[.slice D bs.length c, .int .i64 0, .int .i64 0, .int .i64 0] 83)).alloc (.cells #[.pointer (some ⟨Y, 0, none⟩)] 79))
  have HP7 : Hid (Blk ((w6.alloc (.cells #[.slice D bs.length c, .int .i64 0, .int .i64 0, .int .i64 0] 83)).alloc (.cells #[.pointer (some ⟨Y, 0, none⟩)] 79)) (w6.heap.size + 1) 79 #[.pointer (some ⟨Y, 0, none⟩)]) := by
    have h9 := Blk.new (w6.alloc (.cells #[.slice D bs.length c, .int .i64 0, .int .i64 0, .int .i64 0] 83)) 79 #[.pointer (some ⟨Y, 0, none⟩)]
    rw [show (w6.alloc (.cells #[.slice D bs.length c, .int .i64 0, .int .i64 0, .int .i64 0] 83)).heap.size = w6.heap.size + 1 by simp] at h9
    exact h9
  go_wp2_with fail
  obtain ⟨W7, hW7⟩ : ∃ W7, W7 = (w6.alloc (.cells #[.slice D bs.length c, .int .i64 0, .int .i64 0, .int .i64 0] 83)).alloc (.cells #[.pointer (some ⟨Y, 0, none⟩)] 79) := ⟨_, rfl⟩
  obtain ⟨Z, hZ⟩ : ∃ Z, Z = w6.heap.size := ⟨_, rfl⟩
  rw [← hW7] at HZ7 HY7 HP7 HA7 ⊢
  rw [← hZ] at hsz6 HZ7 HP7 hYl hlow6 ⊢
  have hZ7 := HZ7.out.lt
  have hYZ : Y ≠ Z := by omega
  clear hW7 hZ hs6
  have HV := Lib.hid (ebvalue_ok 97 #[.pointer (some ⟨Z + 1, 0, none⟩)] W7 (fun i => i = Y) (fun Dz cz _w w' => ∃ l1 : List El, l1.map El.sh = l ∧ w'.ownsRow _w.heap.size 136 5 (.slice Dz n cz) n (els l1) ∧ ∀ x ∈ l1, w'.ownsRow _w.heap.size 51 1 (.slice x.FA x.m x.fc) x.m (u32s x.L)) n (fun _ => rfl) (fun k hk => hk ▸ HY7.out.lt) (fun w' h' => by
    have h9 := erclo_any w' Y (Z + 1) S' D' c' bs 0 (HY7.out.quiet h') (HP7.out.step h' id)
    rw [HC.out] at h9
    refine h9.mono ?_
    rintro e w'' ⟨l1, D1, c1, h1, h2, h3, h3i, h4⟩
    have hln : l1.length = n := by rw [HN.out, ← h1, List.length_map]
    rw [hln] at h2 h3
    exact ⟨D1, c1, h2, h4, l1, h1, h3, h3i⟩))
  refine HV.out.mono ?_
  rintro e w8 ⟨Dz, cz, rfl, wa, wb, s1, s2, ⟨l1, hsh1, hown1, hin1⟩, s3⟩
  have hlowZ := HZ7.out.low
  have hwa := s1.size
  have hA7s := HA7.out.size
  have HA8 := Lib.hid (((HA7.out.trans s1).trans' s2 (fun i hi => .inr (by omega))).trans' s3 (fun i hi => .inr (by omega)))
  have HZ8 := Lib.hid (((HZ7.out.quiet s1).step s2 (Ne.symm hYZ) (fun j hj e => by have := hlow j hj; have := hY; omega)).step s3 (fun hk => by omega) (fun j hj hk => by have := hlowZ j hj; omega))
  have HG8 := Lib.hid (own_step hown1 s3 (fun q hq hk => by have := own_ge hown1 q hq; omega))
  have hG8 : ∀ q, Value.ownBlock (.slice Dz n cz) = some q → wa.heap.size ≤ q := fun q hq => own_ge hown1 q hq
  have HI8 : Hid (∀ x ∈ l1, w8.ownsRow wa.heap.size 51 1 (.slice x.FA x.m x.fc) x.m (u32s x.L)) := fun x hx => own_step (hin1 x hx) s3 (fun q hq hk => by have := own_ge (hin1 x hx) q hq; omega)
  clear s1 s2 s3 hown1 hin1 HV HC
  have HSH1 := Lib.hid hsh1
  clear hsh1
  go_wp2_with fail
  have hZ8 := HZ8.out.lt
  have HT8 := Lib.hid (Blk.new w8 85 #[.int .i64 0, .int .i64 0])
  refine (regall_walk _ Z S D c bs _ (HZ8.out.alloc _)).mono ?_
  intro e w9 hp
  rw [show rallF (relmF bs) bs ⟨0, 0, 0⟩ = (l, ⟨k1, 0, 0⟩) from HT.out] at hp
  obtain ⟨l2, D2, c2, hsh2, rfl, hown2, hin2, hs9, ht9⟩ := hp
  have hln2 : l2.length = n := by rw [HN.out, ← show l2.map El.sh = l from hsh2, List.length_map]
  rw [hln2] at hown2 ⊢
  have HSH2 : Hid (l2.map El.sh = l) := hsh2
  obtain ⟨T, hT⟩ : ∃ T, T = w8.heap.size := ⟨_, rfl⟩
  rw [← hT] at HT8 hZ8 ⊢
  have HG9 := Lib.hid (Reads.of_own (own_step (HG8.out.alloc (.cells #[.int .i64 0, .int .i64 0] 85)) ht9 (fun q hq e => by have := hG8 q hq; omega)))
  have HG2 := Lib.hid (Reads.of_own hown2)
  have HI9 := Lib.hid (fun (x : El) (hx : x ∈ l1) => Reads.of_own (own_step ((HI8.out x hx).alloc (.cells #[.int .i64 0, .int .i64 0] 85)) ht9 (fun q hq e => by have := own_ge (HI8.out x hx) q hq; omega)))
  have HI2 := Lib.hid (fun (x : El) (hx : x ∈ l2) => Reads.of_own (hin2 x hx))
  have HA9 := Lib.hid ((HA8.out.alloc _).trans' ht9 (fun i hi => .inr (by omega)))
  have HT9 := Lib.hid (HT8.out.step ht9 (show T ≠ Z by omega))
  have HZ9 : Hid (Rf w9 Z S D c bs ⟨k1, 0, 0⟩) := hs9
  clear hs9 ht9 HT8 hT HZ8 hsh2 hown2 hin2 hln2 HG8 HI8 HT
  have x2 := HZ9.out.c2
  simp only at x2
  have z0 := HT9.out.cell 0
  simp at z0
  have n4 : ((n : Int) != (n : Int)) = false := by simp
  go_wp2_with fail
  clear x2 z0
  obtain ⟨W, hW⟩ : ∃ W, W = w9 := ⟨_, rfl⟩
  rw [← hW] at HG9 HG2 HI9 HI2 HA9 ⊢
  clear hW HT9 HZ9
  go_loopw [8] (fun iv wr => ∃ (i : Nat), i ≤ n ∧ iv = .int .i64 (i : Int) ∧ Hid (Step (fun _ => False) W wr)) (fun iv _ => n + 1 - (intOf iv).toNat)
  case atStart => exact ⟨0, by omega, rfl, Step.refl⟩
  case round =>
    obtain ⟨i, hi, rfl, HSi⟩ := hrel
    by_cases hlt : i < n
    · have g1 : (i : Int) < (n : Int) := by omega
      have i0 : (0 : Int) ≤ (i : Int) := by omega
      have hw1 := IntWalk.i64_in ((i : Int) + 1) (by omega)
      have hil : i < l.length := by rw [← HN.out]; exact hlt
      have hil1 : i < l1.length := by rw [← List.length_map (f := El.sh), HSH1.out]; exact hil
      have hil2 : i < l2.length := by rw [← List.length_map (f := El.sh), HSH2.out]; exact hil
      obtain ⟨bk, off, rfl, _, hbl, hc⟩ := reads_row El.cells 5 (by decide) El.six (HG9.out.step HSi.out (fun _ _ => id)) (k := i) hil1
      obtain ⟨bz, ofz, rfl, _, hbz, hcz⟩ := reads_row El.cells 5 (by decide) El.six (HG2.out.step HSi.out (fun _ _ => id)) (k := i) hil2
      have hx1 : l1[i].sh = l[i] := by
        have h5 : (l1.map El.sh)[i]'(by rw [List.length_map]; exact hil1) = l1[i].sh := List.getElem_map _
        rw [← h5]
        exact List.getElem_of_eq HSH1.out _
      have hx2 : l2[i].sh = l[i] := by
        have h5 : (l2.map El.sh)[i]'(by rw [List.length_map]; exact hil2) = l2[i].sh := List.getElem_map _
        rw [← h5]
        exact List.getElem_of_eq HSH2.out _
      have hxz := HZZ.out l[i] (List.getElem_mem hil)
      have hr1 := (HI9.out l1[i] (List.getElem_mem hil1)).step HSi.out (fun _ _ => id)
      have hr2 := (HI2.out l2[i] (List.getElem_mem hil2)).step HSi.out (fun _ _ => id)
      rw [← hx2] at hx1 hxz
      clear hx2
      obtain ⟨x, hxe⟩ : ∃ x, x = l1[i] := ⟨_, rfl⟩
      obtain ⟨z, hze⟩ : ∃ z, z = l2[i] := ⟨_, rfl⟩
      rw [← hxe] at hx1 hc hr1
      rw [← hze] at hx1 hcz hxz hr2
      clear hxe hze
      obtain ⟨op, a, b, m, cc, fm, fc, B, FA, L⟩ := x
      obtain ⟨op', a', b', m', cc', fm', fc', B', FA', L'⟩ := z
      simp only [El.sh, El.mk.injEq] at hx1 hxz
      obtain ⟨e1, e2, e3, e4, _, e6, _, _, _, e10⟩ := hx1
      simp only at hr1 hr2
      subst e1 e2 e3 e4 e6 e10
      obtain ⟨⟨e1, e2⟩, hfm, hfb⟩ := hxz
      subst e1 e2
      have HSm := Lib.hid (fun w' (h' : Step (fun _ => False) wr w') => ersame_walk w' op a cc cc' fm fc fc' B B' FA FA' L _ _ hfm hfb (hr1.step h' (fun _ _ => id)) (hr2.step h' (fun _ _ => id)))
      simp only [elmX] at HSm
      have c0 := hc 0 _ rfl
      have c1 := hc 1 _ rfl
      have c2 := hc 2 _ rfl
      have c3 := hc 3 _ rfl
      have c4 := hc 4 _ rfl
      have e0 := hcz 0 _ rfl
      have e1 := hcz 1 _ rfl
      have e2 := hcz 2 _ rfl
      have e3 := hcz 3 _ rfl
      have e4 := hcz 4 _ rfl
      simp only [Nat.add_zero] at c0 c1 c2 c3 c4 e0 e1 e2 e3 e4
      have d0 := cls_cell (F := fun _ => False) (w0 := wr) c0 id
      have d1 := cls_cell (F := fun _ => False) (w0 := wr) c1 id
      have d2 := cls_cell (F := fun _ => False) (w0 := wr) c2 id
      have d3 := cls_cell (F := fun _ => False) (w0 := wr) c3 id
      have d4 := cls_cell (F := fun _ => False) (w0 := wr) c4 id
      have f0 := cls_cell (F := fun _ => False) (w0 := wr) e0 id
      have f1 := cls_cell (F := fun _ => False) (w0 := wr) e1 id
      have f2 := cls_cell (F := fun _ => False) (w0 := wr) e2 id
      have f3 := cls_cell (F := fun _ => False) (w0 := wr) e3 id
      have f4 := cls_cell (F := fun _ => False) (w0 := wr) e4 id
      clear hr1 hr2 hfm hfb hc hcz c0 c1 c2 c3 c4 e0 e1 e2 e3 e4
      go_wp2_with fail
      refine Mix.wp_region_mix [8] [8] (Step (fun _ => False) wr) (by kernel_rfl) (by kernel_rfl) Step.refl.drew (fun hcls => ?_)
      refine Mix.wpL_reads 8 (by rfl) ?_
      simp only [List.take_succ_cons, List.drop_succ_cons, List.take_zero, List.drop_zero]
      repeat (go_big_quiet_step (fail))
      refine wpQuiet_nil ?_
      refine Mix.wpL_op (by rfl) (fun K hK => ?_)
      go_simp
      refine (HSm.out _ Step.refl.drew).mono ?_
      rintro e wd ⟨rfl, hSd⟩
      have HSd := Lib.hid (Step.refl.drew.trans hSd)
      refine hK _ _ (fun hlt => Mix.cl HSd.out) ?_
      clear hK K hSd
      refine Mix.wpL_reads 1 (by rfl) ?_
      simp only [List.take_succ_cons, List.drop_succ_cons, List.take_zero, List.drop_zero]
      repeat (go_big_quiet_step (fail))
      refine wpQuiet_nil ?_
      refine Mix.wpL_end ?_
      go_wp2_with fail
      go_roundw
      case rel => exact ⟨i + 1, by omega, by rw [Int.natCast_add]; rfl, HSi.out.trans HSd.out⟩
      case measure => simp [intOf]; omega
    · obtain rfl : i = n := by omega
      go_wp2_with fail
      go_ret
      exact ⟨rfl, HA9.out.trans HSi.out⟩

theorem ereads_walk (w : World) (D : Option Addr) (c : Nat) (bs : List UInt8) (S : Nat → Prop) (hlow : ∀ j, S j → j < w.heap.size) (hr : Reads w S 1 D bs.length (u8s bs)) :
    Calls Try.prog 16 #[.slice D bs.length c] w fun e w' => e = .returned (.bool true) ∧ Below w.heap.size w w' := by
  have key : Calls Try.prog 16 #[.slice D bs.length c] w fun e w' => e = .returned (.bool true) ∧ Step (fun _ => False) w w' := by
    by_cases h : bs.length ≤ 600
    · cases hc : allF (elmF bs) bs 0 with
      | ok l k => exact ereads_ok w D c bs S hlow hr h l k hc
      | er y b => exact ereads_er w D c bs S hlow hr h y b hc
    · exact ereads_big w D c bs.length (by omega)
  exact key.mono fun _ _ hh => ⟨hh.1, hh.2.below w.heap.size (fun _ _ hf => hf.elim) (Nat.le_refl _)⟩
end Go.Proofs.Ytfemeendkjcffaa
