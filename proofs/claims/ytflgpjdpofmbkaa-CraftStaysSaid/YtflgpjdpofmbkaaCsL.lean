/-
  craft: a maker and the document's module side by side.
-/
import Derived.Test.YtflgpjdpofmbkaaCsK
set_option linter.unusedVariables false
set_option linter.unusedSimpArgs false
namespace Go.Proofs.Ytflgpjdpofmbkaa
open Go.RowKit
def El.er (x : El) : El := ⟨x.g, x.f, none, 0⟩
def Cd.er (x : Cd) : Cd := ⟨x.lo, x.bo, none, 0, none, 0⟩
/-- A module but for where its inner rows lie. -/
def Mo.er (s : Mo) : Mo := { s with els := s.els.map El.er, cs := s.cs.map Cd.er }
/-- The inner rows of a module. -/
structure Inn (w : World) (S : Nat → Prop) (s : Mo) : Prop where
  el : ∀ e ∈ s.els, Reads w S 1 e.A 1 (u32s [e.f])
  lo : ∀ e ∈ s.cs, Reads w S 2 e.LA e.lo.length (locs e.lo)
  bo : ∀ e ∈ s.cs, Reads w S 4 e.BA e.bo.length (igs e.bo)
  ins : ∀ e ∈ s.cs, ∀ g ∈ e.bo, g.n = g.L.length ∧ Reads w S 1 g.A g.n (u32s g.L)
  bd : ∀ e ∈ s.cs, e.lo.length ≤ 100000 ∧ e.bo.length ≤ 100000 ∧ ∀ g ∈ e.bo, g.n ≤ 100000
section
variable {w w' : World} {S S' F : Nat → Prop} {s s' : Mo}
theorem Inn.step (h : Inn w S s) (hs : Step F w w') (hd : ∀ k, S k → ¬ F k) : Inn w' S s :=
  ⟨fun e he => (h.el e he).step hs hd, fun e he => (h.lo e he).step hs hd, fun e he => (h.bo e he).step hs hd, fun e he g hg => ⟨(h.ins e he g hg).1, (h.ins e he g hg).2.step hs hd⟩, h.bd⟩
theorem Inn.mono (h : Inn w S s) (hS : ∀ k, k < w.heap.size → S k → S' k) : Inn w S' s :=
  ⟨fun e he => (h.el e he).mono hS, fun e he => (h.lo e he).mono hS, fun e he => (h.bo e he).mono hS, fun e he g hg => ⟨(h.ins e he g hg).1, (h.ins e he g hg).2.mono hS⟩, h.bd⟩
theorem Inn.same (h : Inn w S s) (h1 : s'.els = s.els) (h2 : s'.cs = s.cs) : Inn w S s' := ⟨by rw [h1]; exact h.el, by rw [h2]; exact h.lo, by rw [h2]; exact h.bo, by rw [h2]; exact h.ins, by rw [h2]; exact h.bd⟩
theorem Inn.addEl (h : Inn w S s) {x : El} (hx : Reads w S 1 x.A 1 (u32s [x.f])) (h1 : s'.els = s.els ++ [x]) (h2 : s'.cs = s.cs) : Inn w S s' :=
  ⟨fun e he => by
    rw [h1] at he
    rcases List.mem_append.1 he with h3 | h3
    · exact h.el e h3
    · obtain rfl := List.mem_singleton.1 h3
      exact hx, by rw [h2]; exact h.lo, by rw [h2]; exact h.bo, by rw [h2]; exact h.ins, by rw [h2]; exact h.bd⟩
theorem Inn.addCd (h : Inn w S s) {x : Cd} (hx : Reads w S 2 x.LA x.lo.length (locs x.lo)) (hy : Reads w S 4 x.BA x.bo.length (igs x.bo)) (hz : ∀ g ∈ x.bo, g.n = g.L.length ∧ Reads w S 1 g.A g.n (u32s g.L)) (hb : x.lo.length ≤ 100000 ∧ x.bo.length ≤ 100000 ∧ ∀ g ∈ x.bo, g.n ≤ 100000) (h1 : s'.els = s.els) (h2 : s'.cs = s.cs ++ [x]) : Inn w S s' :=
  ⟨by rw [h1]; exact h.el, fun e he => by
    rw [h2] at he
    rcases List.mem_append.1 he with h3 | h3
    · exact h.lo e h3
    · obtain rfl := List.mem_singleton.1 h3
      exact hx, fun e he => by
    rw [h2] at he
    rcases List.mem_append.1 he with h3 | h3
    · exact h.bo e h3
    · obtain rfl := List.mem_singleton.1 h3
      exact hy, fun e he => by
    rw [h2] at he
    rcases List.mem_append.1 he with h3 | h3
    · exact h.ins e h3
    · obtain rfl := List.mem_singleton.1 h3
      exact hz, fun e he => by
    rw [h2] at he
    rcases List.mem_append.1 he with h3 | h3
    · exact h.bd e h3
    · obtain rfl := List.mem_singleton.1 h3
      exact hb⟩
end
/-- The equalities of two modules that are alike but for their inner rows' places. -/
structure Alike (s m : Mo) : Prop where
  q0 : m.ts = s.ts
  q1 : m.is = s.is
  q2 : m.fs = s.fs
  q5 : m.gs = s.gs
  q6 : m.es = s.es
  q10 : m.ds = s.ds
  q16 : m.nd = s.nd
  st : m.st = s.st
  d1 : m.d1 = s.d1
  d2 : m.d2 = s.d2
  d3 : m.d3 = s.d3
  d4 : m.d4 = s.d4
  q8 : m.els.map El.er = s.els.map El.er
  q9 : m.cs.map Cd.er = s.cs.map Cd.er
/-- No list is longer than before by more than one. -/
def Grow (s s' : Mo) : Prop := ∀ n, s.small n → s'.small (n + 1)
theorem Grow.refl (s : Mo) : Grow s s := fun n ⟨h0, h1, h2, h3, h4, h5, h6, h7, h8⟩ => ⟨Nat.le_succ_of_le h0, Nat.le_succ_of_le h1, Nat.le_succ_of_le h2, Nat.le_succ_of_le h3, Nat.le_succ_of_le h4, Nat.le_succ_of_le h5, Nat.le_succ_of_le h6, Nat.le_succ_of_le h7, Nat.le_succ_of_le h8⟩
theorem Alike.small {s m : Mo} (h : Alike s m) {n : Nat} (hs : s.small n) : m.small n := by
  obtain ⟨h0, h1, h2, h3, h4, h5, h6, h7, h8⟩ := hs
  have e8 : m.els.length = s.els.length := by have := congrArg List.length h.q8; simpa using this
  have e9 : m.cs.length = s.cs.length := by have := congrArg List.length h.q9; simpa using this
  exact ⟨by rw [h.q0]; exact h0, by rw [h.q1]; exact h1, by rw [h.q2]; exact h2, by rw [h.q5]; exact h3, by rw [h.q6]; exact h4, by rw [e8]; exact h5, by rw [e9]; exact h6, by rw [h.q10]; exact h7, by rw [h.q16]; exact h8⟩
theorem Alike.refl (s : Mo) : Alike s s := ⟨rfl, rfl, rfl, rfl, rfl, rfl, rfl, rfl, rfl, rfl, rfl, rfl, rfl, rfl⟩
/-- A maker and the document's module, at a world. -/
structure St (T : Nat → Prop) (w : World) (B X : Nat) (a : Ad) (s : Mo) (tk vr : Int) (am : Ad) (m : Mo) : Prop where
  mkr : Mk w B X a s tk vr
  sep : ∀ k, T k → ¬ ftA X a k
  inn : Inn w T s
  rf : Rf w T am m
  inm : Inn w T m
  al : Alike s m
/-- The blocks of the document's module ahead of a call. -/
def Old (T : Nat → Prop) (w : World) : Nat → Prop := fun k => T k ∧ k < w.heap.size
/-- And behind it. -/
def New (T : Nat → Prop) (w : World) (X : Nat) (a : Ad) : Nat → Prop := fun k => Old T w k ∨ (w.heap.size ≤ k ∧ ¬ ftA X a k)
/-- What a call at both leaves. -/
def DOut (T : Nat → Prop) (w : World) (B X : Nat) (a : Ad) (s : Mo) (e : Ending) (w' : World) : Prop :=
  ∃ a' s' tk' vr' am' m' b, e = .returned (.tuple #[.agg (mdC am' m'), .bool b]) ∧ St (New T w X a') w' B X a' s' tk' vr' am' m' ∧ Upd w (ftA X a) (ftA X a') w' ∧ Grow s s'
theorem St.fin {T : Nat → Prop} {w v w4 w5 w6 : World} {B X : Nat} {a a' am am' : Ad} {s s' m m' : Mo} {tk vr tk' vr' : Int} (h : St T w B X a s tk vr am m) (hv : Step (fun _ => False) w v)
    (hm : Mk w4 B X a' s' tk' vr') (hu : Upd v (ftA X a) (ftA X a') w4) (hr : Rf w5 (fun k => Old T w k ∨ w4.heap.size ≤ k) am' m') (h45 : Step (fun _ => False) w4 w5)
    (h56 : Step (fun k => w.heap.size ≤ k ∧ k < v.heap.size) w5 w6) (hi : Inn w4 (fun k => Old T w k ∨ (¬ ftA X a' k ∧ v.heap.size ≤ k)) s') (hi' : Inn w5 (fun k => Old T w k ∨ w4.heap.size ≤ k) m')
    (al : Alike s' m') : St (New T w X a') w6 B X a' s' tk' vr' am' m' ∧ Upd w (ftA X a) (ftA X a') w6 := by
  have hw4 := hu.1.size
  have hin : ∀ k, ftA X a k → k < w.heap.size := h.mkr.in_
  have hnew : ∀ k, ftA X a' k → ftA X a k ∨ v.heap.size ≤ k := hu.2
  have hvz := hv.size
  have hold : ∀ k, Old T w k → ¬ ftA X a' k := fun k hk e => by
    rcases hnew k e with h1 | h1
    · exact h.sep k hk.1 h1
    · have := hk.2; omega
  have hin4 : ∀ k, ftA X a' k → k < w4.heap.size := hm.in_
  have hap : ∀ k, ftA X a' k → ¬ (w.heap.size ≤ k ∧ k < v.heap.size) := fun k hk e => by
    rcases hnew k hk with h1 | h1
    · have := hin k h1; omega
    · omega
  have hS : ∀ k, Old T w k ∨ w4.heap.size ≤ k → ¬ (w.heap.size ≤ k ∧ k < v.heap.size) := fun k hk e => by
    rcases hk with h1 | h1
    · have := h1.2; omega
    · omega
  have hS' : ∀ k, Old T w k ∨ w4.heap.size ≤ k → ¬ ftA X a' k := fun k hk e => by
    rcases hk with h1 | h1
    · exact hold k h1 e
    · have := hin4 k e; omega
  have hT : ∀ k, Old T w k ∨ (¬ ftA X a' k ∧ v.heap.size ≤ k) → ¬ (w.heap.size ≤ k ∧ k < v.heap.size) := fun k hk e => by
    rcases hk with h1 | h1
    · have := h1.2; omega
    · omega
  have hN : ∀ k, Old T w k ∨ w4.heap.size ≤ k → New T w X a' k := fun k hk => by
    rcases hk with h1 | h1
    · exact .inl h1
    · exact .inr ⟨by omega, hS' k (.inr h1)⟩
  refine ⟨⟨(hm.quiet h45).step h56 hap, fun k hk => ?_, ((hi.step h45 (fun _ _ => id)).step h56 hT).mono (fun k _ hk => ?_), (hr.step h56 hS).mono (fun k _ hk => hN k hk), (hi'.step h56 hS).mono (fun k _ hk => hN k hk), al⟩, ?_⟩
  · rcases hk with h1 | h1
    · exact hold k h1
    · exact h1.2
  · rcases hk with h1 | h1
    · exact .inl h1
    · exact .inr ⟨by omega, h1.1⟩
  · exact ((Upd.after hv hu).quiet h45).write h56 (fun k hk => hk.1)
section
variable {T : Nat → Prop} {w v w4 : World} {B X : Nat} {a a' am : Ad} {s m : Mo} {tk vr : Int}
theorem St.old (h : St T w B X a s tk vr am m) : Rf w (Old T w) am m := h.rf.mono fun k hk hn => ⟨hn, hk⟩
theorem St.innO (h : St T w B X a s tk vr am m) : Inn w (Old T w) s := h.inn.mono fun k hk hn => ⟨hn, hk⟩
theorem St.inmO (h : St T w B X a s tk vr am m) : Inn w (Old T w) m := h.inm.mono fun k hk hn => ⟨hn, hk⟩
/-- The document's module behind a maker's call. -/
theorem St.rf4 (h : St T w B X a s tk vr am m) (hv : Step (fun _ => False) w v) (hu : Upd v (ftA X a) (ftA X a') w4) : Rf w4 (Old T w) am m := (h.old.step hv (fun _ _ => id)).step hu.1 (fun k hk => h.sep k hk.1)
theorem St.inn4 (h : St T w B X a s tk vr am m) (hv : Step (fun _ => False) w v) (hu : Upd v (ftA X a) (ftA X a') w4) : Inn w4 (Old T w) s := (h.innO.step hv (fun _ _ => id)).step hu.1 (fun k hk => h.sep k hk.1)
theorem St.inm4 (h : St T w B X a s tk vr am m) (hv : Step (fun _ => False) w v) (hu : Upd v (ftA X a) (ftA X a') w4) : Inn w4 (Old T w) m := (h.inmO.step hv (fun _ _ => id)).step hu.1 (fun k hk => h.sep k hk.1)
end

set_option maxRecDepth 100000 in
set_option maxHeartbeats 3200000 in
theorem wBase_late {w : World} {B X : Nat} {a : Ad} {s : Mo} {tk vr : Int} (h : Mk w B X a s tk vr) (hg : 0 < s.gs.length) :
    Calls Try.prog 39 #[.pointer (some ⟨X, 0, none⟩)] w fun e w' => e = .returned (.tuple #[.int .u32 0, .bool false]) ∧ w' = w := by
  have HG := Lib.hid (global_late w B X a s tk vr h [101, 110, 118] [95, 95, 109, 101, 109, 111, 114, 121, 95, 98, 97, 115, 101] false hg)
  clear h
  go_enter Try.func39, Try.ntmps39
  go_wp2_with fail
  refine HG.out.mono ?_
  rintro e w' ⟨rfl, rfl⟩
  go_wp2_with fail
  go_ret2
  exact ⟨rfl, rfl⟩

set_option maxRecDepth 100000 in
set_option maxHeartbeats 3200000 in
theorem wBase_ok {w : World} {B X : Nat} {a : Ad} {s : Mo} {tk vr : Int} (h : Mk w B X a s tk vr) (hB : B ≤ w.heap.size) (hg : s.gs.length = 0) (hl : s.is.length ≤ 1000) :
    Calls Try.prog 39 #[.pointer (some ⟨X, 0, none⟩)] w fun e w' => (∃ z, e = .returned (.tuple #[.int .u32 z, .bool true])) ∧ ∃ a' v2, Mk w' B X a' { s with is := s.is ++ [(⟨[101, 110, 118], [95, 95, 109, 101, 109, 111, 114, 121, 95, 98, 97, 115, 101], 3, 0, 127, false⟩ : Im)] } tk v2 ∧ Upd w (ftA X a) (ftA X a') w' := by
  have HG := Lib.hid (global_ok w B X a s tk vr h hB [101, 110, 118] [95, 95, 109, 101, 109, 111, 114, 121, 95, 98, 97, 115, 101] false hg hl)
  clear h
  go_enter Try.func39, Try.ntmps39
  go_wp2_with fail
  refine HG.out.mono ?_
  rintro e w' ⟨⟨z, rfl⟩, A', c', v2, hm, hu⟩
  go_wp2_with fail
  go_ret2
  exact ⟨⟨z, rfl⟩, _, v2, hm, hu⟩

set_option maxRecDepth 100000 in
set_option maxHeartbeats 3200000 in
theorem wSlots_late {w : World} {B X : Nat} {a : Ad} {s : Mo} {tk vr : Int} (h : Mk w B X a s tk vr) (hg : 0 < s.gs.length) :
    Calls Try.prog 41 #[.pointer (some ⟨X, 0, none⟩)] w fun e w' => e = .returned (.tuple #[.int .u32 0, .bool false]) ∧ w' = w := by
  have HG := Lib.hid (global_late w B X a s tk vr h [101, 110, 118] [95, 95, 116, 97, 98, 108, 101, 95, 98, 97, 115, 101] false hg)
  clear h
  go_enter Try.func41, Try.ntmps41
  go_wp2_with fail
  refine HG.out.mono ?_
  rintro e w' ⟨rfl, rfl⟩
  go_wp2_with fail
  go_ret2
  exact ⟨rfl, rfl⟩

set_option maxRecDepth 100000 in
set_option maxHeartbeats 3200000 in
theorem wSlots_ok {w : World} {B X : Nat} {a : Ad} {s : Mo} {tk vr : Int} (h : Mk w B X a s tk vr) (hB : B ≤ w.heap.size) (hg : s.gs.length = 0) (hl : s.is.length ≤ 1000) :
    Calls Try.prog 41 #[.pointer (some ⟨X, 0, none⟩)] w fun e w' => (∃ z, e = .returned (.tuple #[.int .u32 z, .bool true])) ∧ ∃ a' v2, Mk w' B X a' { s with is := s.is ++ [(⟨[101, 110, 118], [95, 95, 116, 97, 98, 108, 101, 95, 98, 97, 115, 101], 3, 0, 127, false⟩ : Im)] } tk v2 ∧ Upd w (ftA X a) (ftA X a') w' := by
  have HG := Lib.hid (global_ok w B X a s tk vr h hB [101, 110, 118] [95, 95, 116, 97, 98, 108, 101, 95, 98, 97, 115, 101] false hg hl)
  clear h
  go_enter Try.func41, Try.ntmps41
  go_wp2_with fail
  refine HG.out.mono ?_
  rintro e w' ⟨⟨z, rfl⟩, A', c', v2, hm, hu⟩
  go_wp2_with fail
  go_ret2
  exact ⟨⟨z, rfl⟩, _, v2, hm, hu⟩

set_option maxRecDepth 100000 in
set_option maxHeartbeats 3200000 in
theorem wData_late {w : World} {B X : Nat} {a : Ad} {s : Mo} {tk vr : Int} (h : Mk w B X a s tk vr) (x : List UInt8) (hg : 0 < s.gs.length) :
    Calls Try.prog 42 #[.pointer (some ⟨X, 0, none⟩), .string (str x)] w fun e w' => e = .returned (.tuple #[.int .u32 0, .bool false]) ∧ w' = w := by
  have HG := Lib.hid (global_late w B X a s tk vr h [71, 79, 84, 46, 109, 101, 109] x true hg)
  clear h
  go_enter Try.func42, Try.ntmps42
  go_wp2_with fail
  refine HG.out.mono ?_
  rintro e w' ⟨rfl, rfl⟩
  go_wp2_with fail
  go_ret2
  exact ⟨rfl, rfl⟩

set_option maxRecDepth 100000 in
set_option maxHeartbeats 3200000 in
theorem wData_ok {w : World} {B X : Nat} {a : Ad} {s : Mo} {tk vr : Int} (h : Mk w B X a s tk vr) (hB : B ≤ w.heap.size) (x : List UInt8) (hg : s.gs.length = 0) (hl : s.is.length ≤ 1000) :
    Calls Try.prog 42 #[.pointer (some ⟨X, 0, none⟩), .string (str x)] w fun e w' => (∃ z, e = .returned (.tuple #[.int .u32 z, .bool true])) ∧ ∃ a' v2, Mk w' B X a' { s with is := s.is ++ [(⟨[71, 79, 84, 46, 109, 101, 109], x, 3, 0, 127, true⟩ : Im)] } tk v2 ∧ Upd w (ftA X a) (ftA X a') w' := by
  have HG := Lib.hid (global_ok w B X a s tk vr h hB [71, 79, 84, 46, 109, 101, 109] x true hg hl)
  clear h
  go_enter Try.func42, Try.ntmps42
  go_wp2_with fail
  refine HG.out.mono ?_
  rintro e w' ⟨⟨z, rfl⟩, A', c', v2, hm, hu⟩
  go_wp2_with fail
  go_ret2
  exact ⟨⟨z, rfl⟩, _, v2, hm, hu⟩

set_option maxRecDepth 100000 in
set_option maxHeartbeats 3200000 in
theorem wSlot_late {w : World} {B X : Nat} {a : Ad} {s : Mo} {tk vr : Int} (h : Mk w B X a s tk vr) (x : List UInt8) (hg : 0 < s.gs.length) :
    Calls Try.prog 43 #[.pointer (some ⟨X, 0, none⟩), .string (str x)] w fun e w' => e = .returned (.tuple #[.int .u32 0, .bool false]) ∧ w' = w := by
  have HG := Lib.hid (global_late w B X a s tk vr h [71, 79, 84, 46, 102, 117, 110, 99] x true hg)
  clear h
  go_enter Try.func43, Try.ntmps43
  go_wp2_with fail
  refine HG.out.mono ?_
  rintro e w' ⟨rfl, rfl⟩
  go_wp2_with fail
  go_ret2
  exact ⟨rfl, rfl⟩

set_option maxRecDepth 100000 in
set_option maxHeartbeats 3200000 in
theorem wSlot_ok {w : World} {B X : Nat} {a : Ad} {s : Mo} {tk vr : Int} (h : Mk w B X a s tk vr) (hB : B ≤ w.heap.size) (x : List UInt8) (hg : s.gs.length = 0) (hl : s.is.length ≤ 1000) :
    Calls Try.prog 43 #[.pointer (some ⟨X, 0, none⟩), .string (str x)] w fun e w' => (∃ z, e = .returned (.tuple #[.int .u32 z, .bool true])) ∧ ∃ a' v2, Mk w' B X a' { s with is := s.is ++ [(⟨[71, 79, 84, 46, 102, 117, 110, 99], x, 3, 0, 127, true⟩ : Im)] } tk v2 ∧ Upd w (ftA X a) (ftA X a') w' := by
  have HG := Lib.hid (global_ok w B X a s tk vr h hB [71, 79, 84, 46, 102, 117, 110, 99] x true hg hl)
  clear h
  go_enter Try.func43, Try.ntmps43
  go_wp2_with fail
  refine HG.out.mono ?_
  rintro e w' ⟨⟨z, rfl⟩, A', c', v2, hm, hu⟩
  go_wp2_with fail
  go_ret2
  exact ⟨⟨z, rfl⟩, _, v2, hm, hu⟩
end Go.Proofs.Ytflgpjdpofmbkaa
