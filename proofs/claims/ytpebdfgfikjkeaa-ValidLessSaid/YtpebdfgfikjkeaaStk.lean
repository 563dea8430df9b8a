/-
  opstack.Stack: the functions by definition, and the contracts.
-/
import Derived.Test.YtpebdfgfikjkeaaByt
set_option linter.unusedVariables false
set_option linter.unusedSimpArgs false
namespace Go.Proofs.Ytpebdfgfikjkeaa
open Go.RowKit

/-! ### By definition -/
/-- Pop: what stays, the type, the error's number. -/
def popF (l : List UInt8) (floor : Int) (free : Bool) : List UInt8 × Int × Int :=
  if (l.length : Int) ≤ max floor 0 then (l, 0, if free then 0 else 21) else (l.take (l.length - 1), ((l.getD (l.length - 1) 0).toNat : Int), 0)
def wantF (l : List UInt8) (t : Int) (floor : Int) (free : Bool) : List UInt8 × Int × Int :=
  let r := popF l floor free
  if r.2.2 ≠ 0 then (r.1, 0, r.2.2) else if r.2.1 = 0 then (r.1, t, 0) else if t = 0 ∨ r.2.1 = t then (r.1, r.2.1, 0) else (r.1, 0, 21)
/-- WantAll: over the types from behind. -/
def wantAllF (l : List UInt8) : List UInt8 → Int → Bool → List UInt8 × Int
  | [], _, _ => (l, 0)
  | t :: ts, floor, free => let r := wantF l t.toNat floor free; if r.2.2 ≠ 0 then (r.1, r.2.2) else wantAllF r.1 ts floor free

/-! ### The memory -/
structure StkAt (w : World) (B g : Nat) (D : Option Addr) (c : Nat) (l : List UInt8) : Prop where
  blk : Blk w g 110 #[.slice D l.length c]
  own : w.ownsRow B 5 1 (.slice D l.length c) l.length (u8s l)
  base : B ≤ w.heap.size
theorem StkAt.ne {w : World} {B g : Nat} {D : Option Addr} {c : Nat} {l : List UInt8} (h : StkAt w B g D c l) : blkOf D ≠ some g := by
  have := own_tag h.own h.blk (by decide)
  rwa [ownBlock_slice] at this
theorem StkAt.step {w w' : World} {F : Nat → Prop} {B g : Nat} {D : Option Addr} {c : Nat} {l : List UInt8} (h : StkAt w B g D c l) (hs : Step F w w') (h1 : ¬ F g) (h2 : ∀ k, blkOf D = some k → ¬ F k) : StkAt w' B g D c l :=
  ⟨h.blk.step hs h1, own_step h.own hs (fun k hk => h2 k (by rwa [ownBlock_slice] at hk)), Nat.le_trans h.base hs.size⟩
/-- The stack holds l now. -/
def StkTo (w : World) (B g : Nat) (D : Option Addr) (l : List UInt8) (w' : World) : Prop :=
  ∃ D' c', StkAt w' B g D' c' l ∧ Step (fun k => k = g ∨ blkOf D = some k) w w' ∧ ∀ k, blkOf D' = some k → blkOf D = some k ∨ w.heap.size ≤ k
theorem StkTo.same {w : World} {B g : Nat} {D : Option Addr} {c : Nat} {l : List UInt8} (h : StkAt w B g D c l) : StkTo w B g D l w := ⟨D, c, h, Step.refl, fun _ hk => .inl hk⟩

theorem stk_of {w w1 : World} {B g : Nat} {D D' : Option Addr} {c c' n' : Nat} {l m : List UInt8} (h : StkAt w B g D c l)
    (hs : Step (fun k => blkOf D = some k) w w1) (hn : n' = m.length) (ho : w1.ownsRow B 5 1 (.slice D' n' c') n' (u8s m)) (hD : ∀ k, blkOf D' = some k → blkOf D = some k ∨ w.heap.size ≤ k) :
    StkTo w B g D m (w1.setCell ⟨g, 0, none⟩ (.slice D' n' c')) := by
  subst hn
  have hb1 : Blk w1 g _ _ := h.blk.step hs h.ne
  have hb2 := hb1.set_ 0 (.slice D' m.length c')
  have hgD : blkOf D' ≠ some g := fun e => by
    rcases hD g e with h1 | h1
    · exact h.ne h1
    · have := h.blk.lt; omega
  refine ⟨D', c', ⟨by simpa using hb2, own_set ho (by rw [ownBlock_slice]; exact hgD) _, Nat.le_trans h.base (by simpa [World.setCell] using hs.size)⟩, ?_, hD⟩
  exact (hs.mono fun i _ hi => .inr hi).setCell (.inl (.inl rfl)) _
theorem StkTo.drew {w w' : World} {B g : Nat} {D : Option Addr} {l : List UInt8} (h : StkTo w B g D l w') : StkTo w B g D l w'.drew := by
  obtain ⟨D', c', h1, h2, h3⟩ := h
  exact ⟨D', c', ⟨h1.blk.drew, own_drew h1.own, h1.base⟩, h2.drew, h3⟩

/-! ### The contracts -/
set_option maxRecDepth 100000 in
set_option maxHeartbeats 400000 in
theorem stk_push (w : World) (B g : Nat) (D : Option Addr) (c : Nat) (l : List UInt8) (x : UInt8) (h : StkAt w B g D c l) (hn : l.length ≤ 1000000) :
    Calls Try.prog 76 #[.pointer (some ⟨g, 0, none⟩), .int .u8 (x.toNat : Int)] w fun e w' => e = .returned (.tuple #[]) ∧ StkTo w B g D (l ++ [x]) w' := by
  have ho := h.own
  have hb := h.blk
  have hB := h.base
  have c0 := hb.cell 0
  have f0 := hb.frozen 0
  simp at c0
  have hne := h.ne
  have h1 : ∀ u ∈ #[Value.int .u8 (x.toNat : Int)].toList, u.oneCell' = true := by simp [Value.oneCell']
  have hm : l.length + 1 ≤ maxLen := by unfold maxLen; omega
  go_enter Try.func76, Try.ntmps76
  go_wp2_with (at_builtin; refine wpList_append_src _ rfl _ _ (by rfl) E_u8 (by rfl) (ho.alloc _) (by rfl) (reads_new w #[.int .u8 (x.toNat : Int)] 5 1 1 rfl) h1 hm (by omega) (by simp; omega) ?_; intro D' c' w1 hown1 hgrow hat; have hb1 := (hb.alloc (.cells #[.int .u8 (x.toNat : Int)] 5)).grown hgrow hne; have c1 := hb1.cell 0; have f1 := hb1.frozen 0; simp at c1)
  go_end0
  have hs : Step (fun k => blkOf D = some k) w w1 := (Step.refl.alloc _).grown hgrow (fun k hk => .inl hk)
  refine ⟨rfl, stk_of h hs (by simp) (by rw [u8s_append]; exact hown1) fun k hk => ?_⟩
  rcases hat with e | e
  · exact .inl (e ▸ hk)
  · rw [e] at hk
    simp at hk
    right; omega

set_option maxRecDepth 100000 in
set_option maxHeartbeats 400000 in
theorem stk_pushAll (w : World) (B g : Nat) (D : Option Addr) (c : Nat) (l t : List UInt8) (h : StkAt w B g D c l) (hn : l.length ≤ 1000000) (ht : t.length ≤ 1000000) :
    Calls Try.prog 84 #[.pointer (some ⟨g, 0, none⟩), .string (str t)] w fun e w' => e = .returned (.tuple #[]) ∧ StkTo w B g D (l ++ t) w' := by
  have ho := h.own
  have hb := h.blk
  have hB := h.base
  have c0 := hb.cell 0
  have f0 := hb.frozen 0
  simp at c0
  have hne := h.ne
  have hm : (l ++ t).length ≤ maxLen := by unfold maxLen; simp; omega
  have hm2 : (l ++ t).length ≤ 140737488355328 := by simp; omega
  obtain ⟨m, hml⟩ : ∃ m, m = l ++ t := ⟨_, rfl⟩
  rw [← hml] at hm hm2
  have hlen : m.length = l.length + t.length := by rw [hml]; simp
  have HL := Lib.hid hlen
  have HM := Lib.hid hml
  clear hlen hml
  go_enter Try.func84, Try.ntmps84
  go_wp2_with (at_builtin; refine wpList_append_str _ rfl _ _ (by rfl) Try.underlying9 Try.underlying107 (by kernel_rfl) (by rfl) ho (by rfl) HL.out hm hm2 hB ?_; intro D' c' w1 hown1 hgrow hat; have hb1 := hb.grown hgrow hne; have c1 := hb1.cell 0; have f1 := hb1.frozen 0; simp at c1)
  go_end0
  have hs : Step (fun k => blkOf D = some k) w w1 := Step.refl.grown hgrow (fun k hk => .inl hk)
  rw [← HM.out]
  exact ⟨rfl, stk_of h hs rfl (by rw [HM.out, u8s_append]; rw [HM.out] at hown1; exact hown1) hat⟩

theorem stk_len (w : World) (B g : Nat) (D : Option Addr) (c : Nat) (l : List UInt8) (h : StkAt w B g D c l) :
    Calls Try.prog 65 #[.pointer (some ⟨g, 0, none⟩)] w fun e w' => e = .returned (.int .i64 l.length) ∧ w = w' := by
  have c0 := h.blk.cell 0
  simp at c0
  go_enter Try.func65, Try.ntmps65
  go_wp2
  go_ret
  exact ⟨rfl, rfl⟩

/-- What List gives: a row of its own; nothing else has turned. -/
def StkList (w : World) (l : List UInt8) (e : Ending) (w' : World) : Prop :=
  ∃ A c', e = .returned (.slice A l.length c') ∧ w'.ownsRow w.heap.size 5 1 (.slice A l.length c') l.length (u8s l) ∧ Step (fun _ => False) w w'

end Go.Proofs.Ytpebdfgfikjkeaa
