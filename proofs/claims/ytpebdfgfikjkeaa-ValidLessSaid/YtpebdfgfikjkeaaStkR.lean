/-
  opstack.Stack as a resource: the contracts in the words of Res.
-/
import Derived.Test.YtpebdfgfikjkeaaStkD
import Derived.Test.YtpebdfgfikjkeaaRes
set_option linter.unusedVariables false
set_option linter.unusedSimpArgs false
namespace Go.Proofs.Ytpebdfgfikjkeaa
open Go.RowKit

/-- The stack at block g holds l; I is all that bears it. -/
def Stk (w : World) (I : Nat → Prop) (g : Nat) (l : List UInt8) : Prop := ∃ D c, StkAt w 0 g D c l ∧ ∀ k, I k ↔ (k = g ∨ blkOf D = some k)

section
variable {w w' : World} {I F : Nat → Prop} {g : Nat} {l m : List UInt8}
theorem Stk.in_ (h : Stk w I g l) : In w I := fun k hk => by
  obtain ⟨D, c, h, hI⟩ := h
  rcases (hI k).1 hk with rfl | e
  · exact h.blk.lt
  · exact own_lt h.own k (by rwa [ownBlock_slice])
theorem Stk.self (h : Stk w I g l) : I g := by
  obtain ⟨D, c, h, hI⟩ := h
  exact (hI g).2 (.inl rfl)
theorem Stk.keep (h : Stk w I g l) (hs : Step F w w') (hd : Apart I F) : Stk w' I g l := by
  obtain ⟨D, c, h, hI⟩ := h
  exact ⟨D, c, h.step hs (hd g ((hI g).2 (.inl rfl))) (fun k hk => hd k ((hI k).2 (.inr hk))), hI⟩
theorem Stk.quiet (h : Stk w I g l) (hs : Step (fun _ => False) w w') : Stk w' I g l := h.keep hs apart_none
theorem Stk.of_to {D : Option Addr} (hI : ∀ k, I k ↔ (k = g ∨ blkOf D = some k)) (t : StkTo w 0 g D m w') : ∃ I', Stk w' I' g m ∧ Upd w I I' w' := by
  obtain ⟨D', c', h1, h2, h3⟩ := t
  refine ⟨fun k => k = g ∨ blkOf D' = some k, ⟨D', c', h1, fun _ => Iff.rfl⟩, h2.mono (fun k _ hk => (hI k).2 hk), fun k hk => ?_⟩
  rcases hk with rfl | e
  · exact .inl ((hI k).2 (.inl rfl))
  · rcases h3 k e with e | e
    · exact .inl ((hI k).2 (.inr e))
    · exact .inr e
/-- The stack has turned to hold m. -/
def StkUp (w : World) (I : Nat → Prop) (g : Nat) (m : List UInt8) (w' : World) : Prop := ∃ I', Stk w' I' g m ∧ Upd w I I' w'

theorem stkR_push (x : UInt8) (h : Stk w I g l) (hn : l.length ≤ 1000000) : Calls Try.prog 76 #[.pointer (some ⟨g, 0, none⟩), .int .u8 (x.toNat : Int)] w fun e w' => e = .returned (.tuple #[]) ∧ StkUp w I g (l ++ [x]) w' := by
  obtain ⟨D, c, h, hI⟩ := h
  exact (stk_push w 0 g D c l x h hn).mono fun e w' ⟨h1, h2⟩ => ⟨h1, Stk.of_to hI h2⟩
theorem stkR_pushAll (t : List UInt8) (h : Stk w I g l) (hn : l.length ≤ 1000000) (ht : t.length ≤ 1000000) : Calls Try.prog 84 #[.pointer (some ⟨g, 0, none⟩), .string (str t)] w fun e w' => e = .returned (.tuple #[]) ∧ StkUp w I g (l ++ t) w' := by
  obtain ⟨D, c, h, hI⟩ := h
  exact (stk_pushAll w 0 g D c l t h hn ht).mono fun e w' ⟨h1, h2⟩ => ⟨h1, Stk.of_to hI h2⟩
theorem stkR_len (h : Stk w I g l) : Calls Try.prog 65 #[.pointer (some ⟨g, 0, none⟩)] w fun e w' => e = .returned (.int .i64 l.length) ∧ w = w' := by
  obtain ⟨D, c, h, hI⟩ := h
  exact stk_len w 0 g D c l h
theorem stkR_pop (floor : Int) (free : Bool) (h : Stk w I g l) (hn : l.length ≤ 1000000) : Calls Try.prog 90 #[.pointer (some ⟨g, 0, none⟩), .int .i64 floor, .bool free] w fun e w' =>
    e = .returned (.tuple #[.int .u8 (popF l floor free).2.1, .int .i64 (popF l floor free).2.2]) ∧ StkUp w I g (popF l floor free).1 w' := by
  obtain ⟨D, c, h, hI⟩ := h
  exact (stk_pop w 0 g D c l floor free h hn).mono fun e w' ⟨h1, h2⟩ => ⟨h1, Stk.of_to hI h2⟩
theorem stkR_want (t floor : Int) (free : Bool) (h : Stk w I g l) (hn : l.length ≤ 1000000) : Calls Try.prog 91 #[.pointer (some ⟨g, 0, none⟩), .int .u8 t, .int .i64 floor, .bool free] w fun e w' =>
    e = .returned (.tuple #[.int .u8 (wantF l t floor free).2.1, .int .i64 (wantF l t floor free).2.2]) ∧ StkUp w I g (wantF l t floor free).1 w' := by
  obtain ⟨D, c, h, hI⟩ := h
  exact (stk_want w 0 g D c l t floor free h hn).mono fun e w' ⟨h1, h2⟩ => ⟨h1, Stk.of_to hI h2⟩
theorem stkR_wantAll (t : List UInt8) (floor : Int) (free : Bool) (h : Stk w I g l) (hn : l.length ≤ 1000000) (ht : t.length ≤ 1000000) : Calls Try.prog 93 #[.pointer (some ⟨g, 0, none⟩), .string (str t), .int .i64 floor, .bool free] w fun e w' =>
    e = .returned (.int .i64 (wantAllF l t.reverse floor free).2) ∧ StkUp w I g (wantAllF l t.reverse floor free).1 w' := by
  obtain ⟨D, c, h, hI⟩ := h
  exact (stk_wantAll w 0 g D c l t floor free h hn ht).mono fun e w' ⟨h1, h2⟩ => ⟨h1, Stk.of_to hI h2⟩
theorem stkR_cut (n : Int) (h : Stk w I g l) (hn : l.length ≤ 1000000) : Calls Try.prog 92 #[.pointer (some ⟨g, 0, none⟩), .int .i64 n] w fun e w' => e = .returned (.tuple #[]) ∧ StkUp w I g (cutF l n) w' := by
  obtain ⟨D, c, h, hI⟩ := h
  exact (stk_cut w 0 g D c l n h hn).mono fun e w' ⟨h1, h2⟩ => ⟨h1, Stk.of_to hI h2⟩
end
end Go.Proofs.Ytpebdfgfikjkeaa
