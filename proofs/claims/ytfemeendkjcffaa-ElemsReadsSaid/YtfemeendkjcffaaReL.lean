/-
  creelref07.Get: of any bytes; and that it answers as instr.Get.
-/
import Derived.Test.YtfemeendkjcffaaReJ
import Derived.Test.YtfemeendkjcffaaReK
set_option linter.unusedVariables false
set_option linter.unusedSimpArgs false
namespace Go.Proofs.Ytfemeendkjcffaa
open Go.RowKit

def rgetT (bs : List UInt8) (op m : Nat) (s : Rst) : (Nat × Nat × Nat × List Nat) × Rst :=
  if m = 0 then ((op, 0, 0, []), s)
  else if m = 1 then ((op, (rbyF bs s).1, 0, []), if ¬ (rbyF bs s).1 = 64 ∧ ¬ valF (rbyF bs s).1 = 0 then failS (valF (rbyF bs s).1) s.k (rbyF bs s).2 else (rbyF bs s).2)
  else if m = 3 then ((op, (ridxF bs (rlabF bs (rcntF bs s).1 (rcntF bs s).2).2).1, 0, (rlabF bs (rcntF bs s).1 (rcntF bs s).2).1), (ridxF bs (rlabF bs (rcntF bs s).1 (rcntF bs s).2).2).2)
  else if m = 5 then ((op, (ridxF bs s).1, 0, []), rnoF bs (ridxF bs s).2)
  else if m = 8 then ((op, (ridxF bs s).1, (ridxF bs (ridxF bs s).2).1, []), (ridxF bs (ridxF bs s).2).2)
  else if m = 9 then ((op, 0, 0, []), rnoF bs s)
  else if m = 10 then ((op, (rnumF bs 32 5 true s).1 % 4294967296, 0, []), (rnumF bs 32 5 true s).2)
  else if m = 11 then ((op, (rnumF bs 64 10 true s).1, 0, []), (rnumF bs 64 10 true s).2)
  else ((op, (ridxF bs s).1, 0, []), (ridxF bs s).2)
def rgetF (bs : List UInt8) (s : Rst) : (Nat × Nat × Nat × List Nat) × Rst :=
  if (rbyF bs s).2.y = 0 then
    (if chkF (rbyF bs s).1 = 0 then (finX (rgetT bs (rbyF bs s).1 (infF (rbyF bs s).1).imm (rbyF bs s).2).1 (rgetT bs (rbyF bs s).1 (infF (rbyF bs s).1).imm (rbyF bs s).2).2.y, (rgetT bs (rbyF bs s).1 (infF (rbyF bs s).1).imm (rbyF bs s).2).2)
      else ((0, 0, 0, []), ⟨(rbyF bs s).2.k, chkF (rbyF bs s).1, s.k⟩))
  else ((0, 0, 0, []), (rbyF bs s).2)

/-- What the program's reader comes to, told of the reference's. -/
def Tel {α β : Type} (r : Rs α) (v : α → β) (a : Nat) (q : β × Rst) : Prop :=
  match r with
  | .ok x k => q = (v x, ⟨k, 0, a⟩)
  | .er y b => ¬ y = 0 ∧ q.2.y = y ∧ q.2.a = b

theorem rby_tel (bs : List UInt8) (k a : Nat) : Tel (byF bs k) id a (rbyF bs ⟨k, 0, a⟩) := by
  rw [byF, rbyF, if_pos rfl]
  by_cases h : k < bs.length
  · rw [dif_pos h, dif_pos h]; rfl
  · rw [dif_neg h, dif_neg h]
    exact ⟨by decide, rfl, rfl⟩
theorem rnum_tel (bs : List UInt8) (k a B m : Nat) (sg : Bool) (v y n : Nat) (h : rrF B m sg (bs.drop k) = (v, n, y)) : Tel (if y = 0 then Rs.ok v (k + n) else .er y k) id a (rnumF bs B m sg ⟨k, 0, a⟩) := by
  rw [rnumF, if_pos rfl]
  dsimp only
  rw [h]
  by_cases hy : y = 0
  · rw [if_pos hy, if_pos hy]; rfl
  · rw [if_neg hy, if_neg hy]
    exact ⟨hy, rfl, rfl⟩
theorem ridx_tel (bs : List UInt8) (k a : Nat) : Tel (idxF bs k) id a (ridxF bs ⟨k, 0, a⟩) := by
  have h := rnum_tel bs k a 32 5 false _ _ _ (rrF_u (bs.drop k))
  rw [idxF]
  exact h
theorem rs32_tel (bs : List UInt8) (k a : Nat) : Tel (s32F bs k) (fun v => (v % 18446744073709551616).toNat) a (rnumF bs 32 5 true ⟨k, 0, a⟩) := by
  have h := rnum_tel bs k a 32 5 true _ _ _ (rrF_32 (bs.drop k))
  rw [s32F]
  by_cases hy : (rdS 5 8 15 (bs.drop k)).2.2 = 0
  · rw [if_pos hy] at h ⊢; exact h
  · rw [if_neg hy] at h ⊢; exact h
theorem rs64_tel (bs : List UInt8) (k a : Nat) : Tel (s64F bs k) (fun v => (v % 18446744073709551616).toNat) a (rnumF bs 64 10 true ⟨k, 0, a⟩) := by
  have h := rnum_tel bs k a 64 10 true _ _ _ (rrF_64 (bs.drop k))
  rw [s64F]
  by_cases hy : (rdS 10 1 127 (bs.drop k)).2.2 = 0
  · rw [if_pos hy] at h ⊢; exact h
  · rw [if_neg hy] at h ⊢; exact h

section
variable (bs : List UInt8) (s : Rst) (h : ¬ s.y = 0)
include h
theorem rby_stop : rbyF bs s = (0, s) := by rw [rbyF, if_neg h]
theorem ridx_stop : ridxF bs s = (0, s) := by rw [ridxF, rnumF, if_neg h]
theorem rno_stop : rnoF bs s = s := by rw [rnoF, rby_stop bs s h, if_pos rfl]
theorem fail_stop (y a : Nat) : failS y a s = s := by rw [failS, if_neg h]
end

theorem rcnt_tel (bs : List UInt8) (k a : Nat) : Tel (cntF bs k) id a (rcntF bs ⟨k, 0, a⟩) := by
  have h := ridx_tel bs k a
  rw [cntF, rcntF, rcntS]
  cases hr : idxF bs k with
  | ok v k' =>
    rw [hr] at h
    rw [show ridxF bs ⟨k, 0, a⟩ = (v, ⟨k', 0, a⟩) from h]
    dsimp only
    by_cases hv : v ≤ 10000
    · have hz : ¬ 10000 < v := by omega
      rw [if_pos hv]
      simp only [if_neg hz]
      rfl
    · have hz : 10000 < v := by omega
      rw [if_neg hv]
      simp only [if_pos hz]
      exact ⟨by decide, rfl, rfl⟩
  | er y b =>
    rw [hr] at h
    obtain ⟨h1, h2, h3⟩ := h
    have h0 : ¬ (ridxF bs ⟨k, 0, a⟩).2.y = 0 := by rw [h2]; exact h1
    rw [fail_stop _ h0]
    simp only [ite_self]
    exact ⟨h1, h2, h3⟩
theorem rno_tel (bs : List UInt8) (k a : Nat) : match byF bs k with | .ok z k' => (if z = 0 then rnoF bs ⟨k, 0, a⟩ = ⟨k', 0, a⟩ else ((rnoF bs ⟨k, 0, a⟩).y = 10 ∧ (rnoF bs ⟨k, 0, a⟩).a = k)) | .er y b => ¬ y = 0 ∧ (rnoF bs ⟨k, 0, a⟩).y = y ∧ (rnoF bs ⟨k, 0, a⟩).a = b := by
  have h := rby_tel bs k a
  rw [rnoF]
  cases hr : byF bs k with
  | ok z k' =>
    rw [hr] at h
    rw [show rbyF bs ⟨k, 0, a⟩ = (z, ⟨k', 0, a⟩) from h]
    dsimp only
    by_cases hz : z = 0
    · rw [if_pos hz, if_pos hz]
    · rw [if_neg hz, if_neg hz]
      exact ⟨rfl, rfl⟩
  | er y b =>
    rw [hr] at h
    obtain ⟨h1, h2, h3⟩ := h
    have h0 : ¬ (rbyF bs ⟨k, 0, a⟩).2.y = 0 := by rw [h2]; exact h1
    rw [fail_stop _ h0]
    simp only [ite_self]
    exact ⟨h1, h2, h3⟩
theorem rlab_tel (bs : List UInt8) (a : Nat) : ∀ n k, Tel (labsF bs n k) id a (rlabF bs n ⟨k, 0, a⟩)
  | 0, _ => rfl
  | n + 1, k => by
    have h := ridx_tel bs k a
    rw [labsF, rlabF, if_pos rfl]
    cases hr : idxF bs k with
    | ok v k' =>
      rw [hr] at h
      rw [show ridxF bs ⟨k, 0, a⟩ = (v, ⟨k', 0, a⟩) from h]
      dsimp only
      have h2 := rlab_tel bs a n k'
      cases hl : labsF bs n k' with
      | ok L k2 =>
        rw [hl] at h2
        rw [show rlabF bs n ⟨k', 0, a⟩ = (L, ⟨k2, 0, a⟩) from h2]
        rfl
      | er y b =>
        rw [hl] at h2
        exact h2
    | er y b =>
      rw [hr] at h
      obtain ⟨h1, h2, h3⟩ := h
      have h0 : ¬ (ridxF bs ⟨k, 0, a⟩).2.y = 0 := by rw [h2]; exact h1
      rw [rlab_stop _ _ _ h0]
      exact ⟨h1, h2, h3⟩

/-- The kinds, told of instr.Get's. -/
def TelG (r : Rs (Nat × Nat × Nat × List Nat)) (a : Nat) (q : (Nat × Nat × Nat × List Nat) × Rst) : Prop := Tel r id a q
theorem idx_step {β : Type} (bs : List UInt8) (k a : Nat) (g : Nat → Nat → Rs β) (q : β × Rst)
    (hok : ∀ v k', idxF bs k = .ok v k' → ridxF bs ⟨k, 0, a⟩ = (v, ⟨k', 0, a⟩) → Tel (g v k') id a q)
    (her : ∀ y b, idxF bs k = .er y b → ¬ (ridxF bs ⟨k, 0, a⟩).2.y = 0 → (ridxF bs ⟨k, 0, a⟩).2.y = y → (ridxF bs ⟨k, 0, a⟩).2.a = b → q.2 = (ridxF bs ⟨k, 0, a⟩).2) :
    Tel (match idxF bs k with | .er y b => .er y b | .ok v k' => g v k') id a q := by
  have h := ridx_tel bs k a
  cases hr : idxF bs k with
  | ok v k' => rw [hr] at h; exact hok v k' hr h
  | er y b =>
    rw [hr] at h
    obtain ⟨h1, h2, h3⟩ := h
    have h4 := her y b hr (by rw [h2]; exact h1) h2 h3
    exact ⟨h1, by rw [h4]; exact h2, by rw [h4]; exact h3⟩
theorem no_step (bs : List UInt8) (k a : Nat) (x : Nat × Nat × Nat × List Nat) : Tel (match byF bs k with | .er y b => .er y b | .ok z k' => if z = 0 then Rs.ok x k' else .er 10 k) id a (x, rnoF bs ⟨k, 0, a⟩) := by
  have h := rno_tel bs k a
  cases hr : byF bs k with
  | ok z k' =>
    rw [hr] at h
    dsimp only at h ⊢
    by_cases hz : z = 0
    · rw [if_pos hz] at h ⊢
      rw [h]; rfl
    · rw [if_neg hz] at h ⊢
      exact ⟨by decide, h.1, h.2⟩
  | er y b =>
    rw [hr] at h
    exact h
theorem rgetT_tel (bs : List UInt8) (op m k a : Nat) : Tel (getT bs op m k) id a (rgetT bs op m ⟨k, 0, a⟩) := by
  rw [getT, rgetT]
  by_cases h0 : m = 0
  · rw [if_pos h0, if_pos h0]; rfl
  rw [if_neg h0, if_neg h0]
  by_cases h1 : m = 1
  · rw [if_pos h1, if_pos h1]
    have h := rby_tel bs k a
    cases hr : byF bs k with
    | ok v k' =>
      rw [hr] at h
      rw [show rbyF bs ⟨k, 0, a⟩ = (v, ⟨k', 0, a⟩) from h]
      dsimp only
      have hv := byF_lt hr
      by_cases h64 : v = 64
      · rw [blkF, if_pos h64, if_pos rfl, if_neg (fun hh => hh.1 h64)]; rfl
      · have hb : blkF v = valF v := by rw [blkF, if_neg h64, if_neg (by omega)]
        rw [hb]
        by_cases hz : valF v = 0
        · rw [if_pos hz, if_neg (fun hh => hh.2 hz)]; rfl
        · rw [if_neg hz, if_pos ⟨h64, hz⟩]
          exact ⟨hz, rfl, rfl⟩
    | er y b =>
      rw [hr] at h
      obtain ⟨g1, g2, g3⟩ := h
      have hs : ¬ (rbyF bs ⟨k, 0, a⟩).2.y = 0 := by rw [g2]; exact g1
      rw [fail_stop _ hs]
      simp only [ite_self]
      exact ⟨g1, g2, g3⟩
  rw [if_neg h1, if_neg h1]
  by_cases h3 : m = 3
  · rw [if_pos h3, if_pos h3]
    have h := rcnt_tel bs k a
    cases hr : cntF bs k with
    | ok n k2 =>
      rw [hr] at h
      rw [show rcntF bs ⟨k, 0, a⟩ = (n, ⟨k2, 0, a⟩) from h]
      dsimp only
      have h2 := rlab_tel bs a n k2
      cases hl : labsF bs n k2 with
      | ok L k3 =>
        rw [hl] at h2
        rw [show rlabF bs n ⟨k2, 0, a⟩ = (L, ⟨k3, 0, a⟩) from h2]
        dsimp only
        exact idx_step bs k3 a _ _ (fun v k' _ e => by rw [e]; rfl) (fun y b _ _ _ _ => rfl)
      | er y b =>
        rw [hl] at h2
        obtain ⟨g1, g2, g3⟩ := h2
        have hs : ¬ (rlabF bs n ⟨k2, 0, a⟩).2.y = 0 := by rw [g2]; exact g1
        rw [ridx_stop _ _ hs]
        exact ⟨g1, g2, g3⟩
    | er y b =>
      rw [hr] at h
      obtain ⟨g1, g2, g3⟩ := h
      have hs : ¬ (rcntF bs ⟨k, 0, a⟩).2.y = 0 := by rw [g2]; exact g1
      rw [rlab_stop _ _ _ hs]
      dsimp only
      rw [ridx_stop _ _ hs]
      exact ⟨g1, g2, g3⟩
  rw [if_neg h3, if_neg h3]
  by_cases h5 : m = 5
  · rw [if_pos h5, if_pos h5]
    exact idx_step bs k a _ _ (fun v k' _ e => by rw [e]; exact no_step bs k' a _) (fun y b _ hs _ _ => rno_stop bs _ hs)
  rw [if_neg h5, if_neg h5]
  by_cases h8 : m = 8
  · rw [if_pos h8, if_pos h8]
    exact idx_step bs k a _ _ (fun v k' _ e => by rw [e]; exact idx_step bs k' a _ _ (fun v2 k2 _ e2 => by rw [e2]; rfl) (fun y b _ _ _ _ => rfl)) (fun y b _ hs _ _ => by dsimp only; rw [ridx_stop bs _ hs])
  rw [if_neg h8, if_neg h8]
  by_cases h9 : m = 9
  · rw [if_pos h9, if_pos h9]
    exact no_step bs k a _
  rw [if_neg h9, if_neg h9]
  by_cases h10 : m = 10
  · rw [if_pos h10, if_pos h10]
    have h := rs32_tel bs k a
    cases hr : s32F bs k with
    | ok v k' =>
      rw [hr] at h
      rw [show rnumF bs 32 5 true ⟨k, 0, a⟩ = ((v % 18446744073709551616).toNat, ⟨k', 0, a⟩) from h]
      show _ = _
      simp only [id, Prod.mk.injEq, and_true, true_and]
      omega
    | er y b =>
      rw [hr] at h
      exact h
  rw [if_neg h10, if_neg h10]
  by_cases h11 : m = 11
  · rw [if_pos h11, if_pos h11]
    have h := rs64_tel bs k a
    cases hr : s64F bs k with
    | ok v k' =>
      rw [hr] at h
      rw [show rnumF bs 64 10 true ⟨k, 0, a⟩ = ((v % 18446744073709551616).toNat, ⟨k', 0, a⟩) from h]
      rfl
    | er y b =>
      rw [hr] at h
      exact h
  rw [if_neg h11, if_neg h11]
  exact idx_step bs k a _ _ (fun v k' _ e => by rw [e]; rfl) (fun y b _ _ _ _ => rfl)
theorem rget_tel (bs : List UInt8) (k a : Nat) : match getF bs k with
    | .ok x k' => rgetF bs ⟨k, 0, a⟩ = (x, ⟨k', 0, a⟩)
    | .er y b => ¬ y = 0 ∧ (rgetF bs ⟨k, 0, a⟩).1 = (0, 0, 0, []) ∧ (rgetF bs ⟨k, 0, a⟩).2.y = y ∧ (rgetF bs ⟨k, 0, a⟩).2.a = b := by
  have h := rby_tel bs k a
  rw [getF, rgetF]
  cases hr : byF bs k with
  | ok op k1 =>
    rw [hr] at h
    rw [show rbyF bs ⟨k, 0, a⟩ = (op, ⟨k1, 0, a⟩) from h]
    dsimp only
    rw [if_pos rfl]
    by_cases hck : chkF op = 0
    · rw [if_pos hck, if_pos hck]
      have h2 := rgetT_tel bs op (infF op).imm k1 a
      generalize rgetT bs op (infF op).imm ⟨k1, 0, a⟩ = q at h2 ⊢
      cases hg : getT bs op (infF op).imm k1 with
      | ok x k' =>
        rw [hg] at h2
        rw [show q = (x, ⟨k', 0, a⟩) from h2]
        rfl
      | er y b =>
        rw [hg] at h2
        obtain ⟨g1, g2, g3⟩ := h2
        exact ⟨g1, by rw [finX, if_neg (by rw [g2]; exact g1)], g2, g3⟩
    · rw [if_neg hck, if_neg hck]
      exact ⟨hck, rfl, rfl, rfl⟩
  | er y b =>
    rw [hr] at h
    obtain ⟨g1, g2, g3⟩ := h
    have hs : ¬ (rbyF bs ⟨k, 0, a⟩).2.y = 0 := by rw [g2]; exact g1
    rw [if_neg hs]
    exact ⟨g1, rfl, g2, g3⟩

theorem rget_walk (w : World) (X : Nat) (S : Nat → Prop) (D : Option Addr) (c : Nat) (bs : List UInt8) (s : Rst) (h : Rf w X S D c bs s) :
    Calls Try.prog 145 #[.pointer (some ⟨X, 0, none⟩)] w (GetQ X S D c bs w (rgetF bs s).1 (rgetF bs s).2) := by
  rw [rgetF]
  have hlt := rbyF_lt bs s
  obtain ⟨r, hr⟩ : ∃ r, rbyF bs s = r := ⟨_, rfl⟩
  rw [hr] at hlt ⊢
  obtain ⟨op, k1, Y, a1⟩ := r
  simp only at hlt ⊢
  by_cases hY : Y = 0
  rotate_left
  · rw [if_neg hY]
    exact rg_er w X S D c bs s h op k1 Y a1 hr hY
  subst hY
  rw [if_pos rfl]
  have hop : 0 ≤ (op : Int) ∧ (op : Int) ≤ 255 := by omega
  have hT := tell_at op hlt
  rw [tellB, Bool.and_eq_true] at hT
  have hck := eq_of_beq hT.1
  have hT := hT.2
  have HC : Hid (∀ w, Calls Try.prog 27 #[.int .i64 (op : Int)] w fun e w' => e = .returned (.int .i64 (chkF op : Nat)) ∧ Step (fun _ => False) w w') := fun w => by rw [hck]; exact rcheck_walk w op hlt
  have HO : Hid (∀ w, Calls Try.prog 24 #[.int .i64 (op : Int)] w fun e w' => e = .returned (.tuple #[rrM (ofR op).1 ((ofR op).1.imm : Int), .bool (ofR op).2]) ∧ Step (fun _ => False) w w') := fun w => ofref_walk w op hop
  by_cases he : chkF op = 0
  rotate_left
  · rw [if_neg he]
    exact rg_ck w X S D c bs s h op k1 a1 hr _ he HC
  rw [if_pos he]
  rw [he] at HC
  have hok : (ofR op).2 = true := by
    rw [hck, chkR] at he
    cases hok : (ofR op).2 with
    | true => rfl
    | false => rw [hok] at he; revert he; cases fltF op <;> decide
  rw [hok, if_pos rfl] at hT
  simp only [Bool.and_eq_true, decide_eq_true_eq] at hT
  have him : (infF op).imm = (ofR op).1.imm := by rw [hT.1.1.1]
  rw [him]
  rw [hok] at HO
  obtain ⟨i, hi⟩ : ∃ i, i = (ofR op).1 := ⟨_, rfl⟩
  rw [← hi] at HO ⊢
  clear hi him hT hok hck
  obtain ⟨m, hm⟩ : ∃ m, m = i.imm := ⟨_, rfl⟩
  rw [← hm] at HO ⊢
  clear hm he
  have HI : Hid (∀ s0, ∀ w', Rf w' X S D c bs s0 → Calls Try.prog 192 #[.pointer (some ⟨X, 0, none⟩)] w' (Rg X S D c bs w' (.int .u32 ((ridxF bs s0).1 : Int)) (ridxF bs s0).2)) := fun s0 w' h' => rindex_walk w' X S D c bs s0 h'
  have HNo : Hid (∀ s0, ∀ w', Rf w' X S D c bs s0 → Calls Try.prog 193 #[.pointer (some ⟨X, 0, none⟩)] w' (Rg X S D c bs w' (.tuple #[]) (rnoF bs s0))) := fun s0 w' h' => rnought_walk w' X S D c bs s0 h'
  rw [rgetT]
  by_cases h0 : m = 0
  · subst h0
    rw [if_pos rfl]
    exact rg_0 w X S D c bs s h op k1 a1 i hr HC HO
  rw [if_neg h0]
  by_cases h1 : m = 1
  · subst h1
    rw [if_pos rfl]
    have HB : Hid (∀ w', Rf w' X S D c bs ⟨k1, 0, a1⟩ → Calls Try.prog 147 #[.pointer (some ⟨X, 0, none⟩)] w' (Rg X S D c bs w' (.int .i64 ((rbyF bs ⟨k1, 0, a1⟩).1 : Int)) (rbyF bs ⟨k1, 0, a1⟩).2)) := fun w' h' => rbyte_walk w' X S D c bs _ h'
    have hl := rbyF_lt bs ⟨k1, 0, a1⟩
    obtain ⟨r, hr2⟩ : ∃ r, r = rbyF bs ⟨k1, 0, a1⟩ := ⟨_, rfl⟩
    rw [← hr2] at HB hl ⊢
    obtain ⟨a, s2⟩ := r
    simp only at HB hl ⊢
    clear hr2
    by_cases h64 : a = 64
    · rw [if_neg (fun hh => hh.1 h64)]
      exact rg_1a w X S D c bs s h op k1 a1 i hr a s2 h64 HB HC HO
    · have HV : Hid (∀ w, Calls Try.prog 148 #[.int .i64 (a : Int)] w fun e w' => e = .returned (.int .i64 (valF a : Nat)) ∧ w' = w) := fun w => rvalue_walk w a (by omega)
      by_cases hv : valF a = 0
      · rw [if_neg (fun hh => hh.2 hv)]
        exact rg_1b w X S D c bs s h op k1 a1 i hr a s2 ⟨hl, h64⟩ _ hv HB HV HC HO
      · rw [if_pos ⟨h64, hv⟩]
        exact rg_1c w X S D c bs s h op k1 a1 i hr a s2 ⟨hl, h64⟩ _ hv HB HV _ (fun w' h' => rfail_walk w' X S D c bs s2 h' _ k1) HC HO
  rw [if_neg h1]
  by_cases h3 : m = 3
  · subst h3
    rw [if_pos rfl]
    refine rg_3 w X S D c bs s h op k1 a1 i hr (rcntF bs ⟨k1, 0, a1⟩).1 (rcntF bs ⟨k1, 0, a1⟩).2 ?_ (fun w' h' => rcount_walk w' X S D c bs _ h') _ rfl HC HO
    rw [rcntF]
    dsimp only
    split
    · rename_i h9
      rw [rcntS] at h9
      by_cases hv : 10000 < (ridxF bs ⟨k1, 0, a1⟩).1
      · rw [if_pos hv, failS] at h9
        exfalso
        by_cases h8 : (ridxF bs ⟨k1, 0, a1⟩).2.y = 0
        · rw [if_pos h8] at h9
          cases h9
        · rw [if_neg h8] at h9
          exact h8 h9
      · omega
    · exact Nat.zero_le _
  rw [if_neg h3]
  by_cases h5 : m = 5
  · subst h5
    rw [if_pos rfl]
    exact rg_5 w X S D c bs s h op k1 a1 i hr _ _ _ (ridxF_lt bs _) (HI.out _) (HNo.out _) HC HO
  rw [if_neg h5]
  by_cases h8 : m = 8
  · subst h8
    rw [if_pos rfl]
    exact rg_8 w X S D c bs s h op k1 a1 i hr _ _ _ _ (ridxF_lt bs _) (ridxF_lt bs _) (HI.out _) (HI.out _) HC HO
  rw [if_neg h8]
  by_cases h9 : m = 9
  · subst h9
    rw [if_pos rfl]
    exact rg_9 w X S D c bs s h op k1 a1 i hr _ (HNo.out _) HC HO
  rw [if_neg h9]
  by_cases h10 : m = 10
  · subst h10
    rw [if_pos rfl]
    exact rg_10 w X S D c bs s h op k1 a1 i hr _ _ _ rfl (fun w' h' => rnum_walk w' X S D c bs _ h' 32 5 true (.inl ⟨rfl, rfl⟩)) HC HO
  rw [if_neg h10]
  by_cases h11 : m = 11
  · subst h11
    rw [if_pos rfl]
    exact rg_11 w X S D c bs s h op k1 a1 i hr _ _ (fun w' h' => rnum_walk w' X S D c bs _ h' 64 10 true (.inr ⟨rfl, rfl⟩)) HC HO
  rw [if_neg h11]
  exact rg_7 w X S D c bs s h op k1 a1 i hr m ⟨h0, h1, h3, h5, h8, h9, h10, h11⟩ _ _ (ridxF_lt bs _) (HI.out _) HC HO
end Go.Proofs.Ytfemeendkjcffaa
