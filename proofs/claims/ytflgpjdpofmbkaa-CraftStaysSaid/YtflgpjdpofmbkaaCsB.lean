/-
  craft: a maker's plain calls: Need, Give, Bytes, Room, Start, global.
-/
import Derived.Test.YtflgpjdpofmbkaaCsA
set_option linter.unusedVariables false
set_option linter.unusedSimpArgs false
namespace Go.Proofs.Ytflgpjdpofmbkaa
open Go.RowKit

section
variable (w : World) (B X : Nat) (a : Ad) (s : Mo) (tk vr : Int)

set_option maxRecDepth 100000 in
set_option maxHeartbeats 3200000 in
theorem need_ok (h : Mk w B X a s tk vr) (hB : B ≤ w.heap.size) (x : List UInt8) (D : Option Addr) (c : Nat) (S : Nat → Prop) (hr : Reads w S 1 D 1 [.string (str x)]) (hl : s.nd.length ≤ 1000) :
    Calls Try.prog 22 #[.pointer (some ⟨X, 0, none⟩), .slice D 1 c] w fun e w' => e = .returned (.pointer (some ⟨X, 0, none⟩)) ∧ ∃ A' c', Mk w' B X { a with A16 := A', c16 := c' } { s with nd := s.nd ++ [x] } tk vr ∧ Upd w (ftA X a) (ftA X { a with A16 := A', c16 := c' }) w' := by
  have HM := Lib.hid h
  have c16 := h.blk.cell 16
  simp [mkC] at c16
  have HV := HM
  have hB' : B ≤ w.heap.size := hB
  have hone : ∀ u ∈ [Value.string (str x)], u.oneCell' = true := by simp [Value.oneCell']
  have hm1 : s.nd.length + 1 ≤ maxLen := by unfold maxLen; omega
  clear h
  go_enter Try.func22, Try.ntmps22
  go_wp2_with (at_builtin; refine wpList_append_src _ rfl _ _ (by rfl) E_strs (by rfl) HV.out.o16 (by rfl) (hr) hone hm1 (by omega) hB' ?_; intro D' c' w8 hown8 hgrow hat; obtain ⟨z8, c8⟩ := HV.out.z16 hgrow)
  have hs8 : Step (fun k => blkOf a.A16 = some k) w w8 := Step.refl.grown hgrow (fun k hk => .inl hk)
  rw [show strs s.nd ++ [.string (str x)] = strs (s.nd ++ [x]) by rw [strs_last] <;> rfl, show s.nd.length + 1 = (s.nd ++ [x]).length by simp] at hown8
  have hput := HV.out.put16 hs8 hown8 (fun k hk => by
    rcases hat with e | e
    · exact .inl (by rw [← e]; exact hk)
    · exact .inr (by rw [e] at hk; injection hk with hk; omega))
  replace hput := Lib.hid hput
  rw [show (s.nd ++ [x]).length = s.nd.length + 1 by simp] at hput
  go_ret
  exact ⟨rfl, D', c', hput.out.1, hput.out.2⟩

set_option maxRecDepth 100000 in
set_option maxHeartbeats 3200000 in
theorem give_ok (h : Mk w B X a s tk vr) (hB : B ≤ w.heap.size) (x : List UInt8) (k i : Nat) (hl : s.es.length ≤ 1000) :
    Calls Try.prog 24 #[.pointer (some ⟨X, 0, none⟩), .string (str x), .int .u8 (k : Int), .int .u32 (i : Int)] w fun e w' => e = .returned (.pointer (some ⟨X, 0, none⟩)) ∧ ∃ A' c', Mk w' B X { a with A6 := A', c6 := c' } { s with es := s.es ++ [(⟨x, k, i⟩ : Ex)] } tk vr ∧ Upd w (ftA X a) (ftA X { a with A6 := A', c6 := c' }) w' := by
  have HM := Lib.hid h
  have c6 := h.blk.cell 6
  simp [mkC] at c6
  have HV : Hid (Mk (w.alloc (.cells #[Value.string (str x), .int .u8 (k : Int), .int .u32 (i : Int)] 76)) B X a s tk vr) := h.quiet (Step.alloc Step.refl _)
  have hB' : B ≤ (w.alloc (.cells #[Value.string (str x), .int .u8 (k : Int), .int .u32 (i : Int)] 76)).heap.size := by simp; omega
  have hone : ∀ u ∈ #[Value.string (str x), .int .u8 (k : Int), .int .u32 (i : Int)].toList, u.oneCell' = true := by simp [Value.oneCell']
  have hm1 : s.es.length + 1 ≤ maxLen := by unfold maxLen; omega
  clear h
  go_enter Try.func24, Try.ntmps24
  go_wp2_with (at_builtin; refine wpList_append_src _ rfl _ _ (by rfl) E_exs (by rfl) HV.out.o6 (by rfl) (reads_new _ #[Value.string (str x), .int .u8 (k : Int), .int .u32 (i : Int)] 76 3 1 rfl) hone hm1 (by omega) hB' ?_; intro D' c' w8 hown8 hgrow hat; obtain ⟨z8, c8⟩ := HV.out.z6 hgrow)
  have hs8 : Step (fun k => blkOf a.A6 = some k) (w.alloc (.cells #[Value.string (str x), .int .u8 (k : Int), .int .u32 (i : Int)] 76)) w8 := Step.refl.grown hgrow (fun k hk => .inl hk)
  rw [show exs s.es ++ #[Value.string (str x), .int .u8 (k : Int), .int .u32 (i : Int)].toList = exs (s.es ++ [(⟨x, k, i⟩ : Ex)]) by rw [exs_last] <;> rfl, show s.es.length + 1 = (s.es ++ [(⟨x, k, i⟩ : Ex)]).length by simp] at hown8
  have hput := HV.out.put6 hs8 hown8 (fun k hk => by
    rcases hat with e | e
    · exact .inl (by rw [← e]; exact hk)
    · exact .inr (by rw [e] at hk; injection hk with hk; omega))
  replace hput := Lib.hid hput
  rw [show (s.es ++ [(⟨x, k, i⟩ : Ex)]).length = s.es.length + 1 by simp] at hput
  go_ret
  exact ⟨rfl, D', c', hput.out.1, Upd.after (Step.alloc Step.refl _) hput.out.2⟩

set_option maxRecDepth 100000 in
set_option maxHeartbeats 3200000 in
theorem bytes_ok (h : Mk w B X a s tk vr) (hB : B ≤ w.heap.size) (x : List UInt8) (g : Nat) (hg : g < 4294967296) (hl : s.ds.length ≤ 1000) :
    Calls Try.prog 27 #[.pointer (some ⟨X, 0, none⟩), .int .u32 (g : Int), .string (str x)] w fun e w' => e = .returned (.pointer (some ⟨X, 0, none⟩)) ∧ ∃ A' c', Mk w' B X { a with A10 := A', c10 := c' } { s with ds := s.ds ++ [(⟨g, x⟩ : Da)] } tk vr ∧ Upd w (ftA X a) (ftA X { a with A10 := A', c10 := c' }) w' := by
  have HM := Lib.hid h
  have c10 := h.blk.cell 10
  simp [mkC] at c10
  have HV : Hid (Mk (w.alloc (.cells #[Value.int .u8 35, .int .u64 (g : Int), .int .u64 0, .slice none 0 0, .string (str x)] 86)) B X a s tk vr) := h.quiet (Step.alloc Step.refl _)
  have hB' : B ≤ (w.alloc (.cells #[Value.int .u8 35, .int .u64 (g : Int), .int .u64 0, .slice none 0 0, .string (str x)] 86)).heap.size := by simp; omega
  have hone : ∀ u ∈ #[Value.int .u8 35, .int .u64 (g : Int), .int .u64 0, .slice none 0 0, .string (str x)].toList, u.oneCell' = true := by simp [Value.oneCell']
  have hm1 : s.ds.length + 1 ≤ maxLen := by unfold maxLen; omega
  clear h
  have hw := IntWalk.u64_in (g : Int) (by omega)
  go_enter Try.func27, Try.ntmps27
  go_wp2_with (at_builtin; refine wpList_append_src _ rfl _ _ (by rfl) E_das (by rfl) HV.out.o10 (by rfl) (reads_new _ #[Value.int .u8 35, .int .u64 (g : Int), .int .u64 0, .slice none 0 0, .string (str x)] 86 5 1 rfl) hone hm1 (by omega) hB' ?_; intro D' c' w8 hown8 hgrow hat; obtain ⟨z8, c8⟩ := HV.out.z10 hgrow)
  have hs8 : Step (fun k => blkOf a.A10 = some k) (w.alloc (.cells #[Value.int .u8 35, .int .u64 (g : Int), .int .u64 0, .slice none 0 0, .string (str x)] 86)) w8 := Step.refl.grown hgrow (fun k hk => .inl hk)
  rw [show das s.ds ++ #[Value.int .u8 35, .int .u64 (g : Int), .int .u64 0, .slice none 0 0, .string (str x)].toList = das (s.ds ++ [(⟨g, x⟩ : Da)]) by rw [das_last] <;> rfl, show s.ds.length + 1 = (s.ds ++ [(⟨g, x⟩ : Da)]).length by simp] at hown8
  have hput := HV.out.put10 hs8 hown8 (fun k hk => by
    rcases hat with e | e
    · exact .inl (by rw [← e]; exact hk)
    · exact .inr (by rw [e] at hk; injection hk with hk; omega))
  replace hput := Lib.hid hput
  rw [show (s.ds ++ [(⟨g, x⟩ : Da)]).length = s.ds.length + 1 by simp] at hput
  go_ret
  exact ⟨rfl, D', c', hput.out.1, Upd.after (Step.alloc Step.refl _) hput.out.2⟩

set_option maxRecDepth 100000 in
set_option maxHeartbeats 3200000 in
theorem start_ok (h : Mk w B X a s tk vr) (f : Nat) (hf : f < 4294967296) :
    Calls Try.prog 25 #[.pointer (some ⟨X, 0, none⟩), .int .u32 (f : Int)] w fun e w' => e = .returned (.pointer (some ⟨X, 0, none⟩)) ∧ Mk w' B X a { s with st := (f : Int) } tk vr ∧ Upd w (ftA X a) (ftA X a) w' := by
  have HP := Lib.hid (h.set_st (f : Int))
  have c7 := h.blk.cell 7
  simp [mkC] at c7
  have z7 := h.blk.frozen 7
  have hw := IntWalk.i64_in (f : Int) (by omega)
  clear h
  go_enter Try.func25, Try.ntmps25
  go_wp2_with fail
  go_ret
  exact ⟨rfl, HP.out.1, HP.out.2⟩

set_option maxRecDepth 100000 in
set_option maxHeartbeats 3200000 in
theorem room_ok (h : Mk w B X a s tk vr) (p q r t : Nat) :
    Calls Try.prog 23 #[.pointer (some ⟨X, 0, none⟩), .int .u32 (p : Int), .int .u32 (q : Int), .int .u32 (r : Int), .int .u32 (t : Int)] w fun e w' => e = .returned (.pointer (some ⟨X, 0, none⟩)) ∧ Mk w' B X a { s with d1 := p, d2 := q, d3 := r, d4 := t } tk vr ∧ Upd w (ftA X a) (ftA X a) w' := by
  have h1 := h.set_d1 p
  have h2 := h1.1.set_d2 q
  have h3 := h2.1.set_d3 r
  have h4 := h3.1.set_d4 t
  have HP := Lib.hid (And.intro h4.1 (((h1.2.trans h2.2).trans h3.2).trans h4.2))
  have c12 := h.blk.cell 12
  simp [mkC] at c12
  have z12 := h.blk.frozen 12
  have c13 := h.blk.cell 13
  simp [mkC] at c13
  have z13 := h.blk.frozen 13
  have c14 := h.blk.cell 14
  simp [mkC] at c14
  have z14 := h.blk.frozen 14
  have c15 := h.blk.cell 15
  simp [mkC] at c15
  have z15 := h.blk.frozen 15
  clear h h1 h2 h3 h4
  go_enter Try.func23, Try.ntmps23
  go_wp2_with fail
  go_ret
  exact ⟨rfl, HP.out.1, HP.out.2⟩

set_option maxRecDepth 100000 in
set_option maxHeartbeats 3200000 in
theorem global_late (h : Mk w B X a s tk vr) (x y : List UInt8) (b : Bool) (hg : 0 < s.gs.length) :
    Calls Try.prog 51 #[.pointer (some ⟨X, 0, none⟩), .string (str x), .string (str y), .bool b] w fun e w' => e = .returned (.tuple #[.int .u32 0, .bool false]) ∧ w' = w := by
  have c5 := h.blk.cell 5
  simp [mkC] at c5
  have g0 : (0 : Int) < (s.gs.length : Int) := by omega
  clear h
  go_enter Try.func51, Try.ntmps51
  go_wp2_with fail
  go_ret2
  exact ⟨rfl, rfl⟩

set_option maxRecDepth 100000 in
set_option maxHeartbeats 3200000 in
theorem global_ok (h : Mk w B X a s tk vr) (hB : B ≤ w.heap.size) (x y : List UInt8) (b : Bool) (hg : s.gs.length = 0) (hl : s.is.length ≤ 1000) :
    Calls Try.prog 51 #[.pointer (some ⟨X, 0, none⟩), .string (str x), .string (str y), .bool b] w fun e w' => (∃ z, e = .returned (.tuple #[.int .u32 z, .bool true])) ∧ ∃ A' c' v2, Mk w' B X { a with A1 := A', c1 := c' } { s with is := s.is ++ [(⟨x, y, 3, 0, 127, b⟩ : Im)] } tk v2 ∧ Upd w (ftA X a) (ftA X { a with A1 := A', c1 := c' }) w' := by
  have HM := Lib.hid h
  have c5 := h.blk.cell 5
  simp [mkC] at c5
  have c1 := h.blk.cell 1
  simp [mkC] at c1
  have HV : Hid (Mk (w.alloc (.cells #[Value.string (str x), .string (str y), .int .u8 3, .int .u32 0, .int .u32 0, .int .u32 0, .bool false, .int .u8 127, .bool b] 67)) B X a s tk vr) := h.quiet (Step.alloc Step.refl _)
  have hB' : B ≤ (w.alloc (.cells #[Value.string (str x), .string (str y), .int .u8 3, .int .u32 0, .int .u32 0, .int .u32 0, .bool false, .int .u8 127, .bool b] 67)).heap.size := by simp; omega
  have hone : ∀ u ∈ #[Value.string (str x), .string (str y), .int .u8 3, .int .u32 0, .int .u32 0, .int .u32 0, .bool false, .int .u8 127, .bool b].toList, u.oneCell' = true := by simp [Value.oneCell']
  have hm1 : s.is.length + 1 ≤ maxLen := by unfold maxLen; omega
  clear h
  have g0 : ¬ (0 : Int) < (s.gs.length : Int) := by omega
  go_enter Try.func51, Try.ntmps51
  go_wp2_with (at_builtin; refine wpList_append_src _ rfl _ _ (by rfl) E_ims (by rfl) HV.out.o1 (by rfl) (reads_new _ #[Value.string (str x), .string (str y), .int .u8 3, .int .u32 0, .int .u32 0, .int .u32 0, .bool false, .int .u8 127, .bool b] 67 9 1 rfl) hone hm1 (by omega) hB' ?_; intro D' c' w8 hown8 hgrow hat; obtain ⟨z8, c8⟩ := HV.out.z1 hgrow; obtain ⟨z18, c18⟩ := HV.out.zz1 hgrow 18; simp [mkC] at c18)
  have hs8 : Step (fun k => blkOf a.A1 = some k) (w.alloc (.cells #[Value.string (str x), .string (str y), .int .u8 3, .int .u32 0, .int .u32 0, .int .u32 0, .bool false, .int .u8 127, .bool b] 67)) w8 := Step.refl.grown hgrow (fun k hk => .inl hk)
  rw [show ims s.is ++ #[Value.string (str x), .string (str y), .int .u8 3, .int .u32 0, .int .u32 0, .int .u32 0, .bool false, .int .u8 127, .bool b].toList = ims (s.is ++ [(⟨x, y, 3, 0, 127, b⟩ : Im)]) by rw [ims_last] <;> rfl, show s.is.length + 1 = (s.is ++ [(⟨x, y, 3, 0, 127, b⟩ : Im)]).length by simp] at hown8
  have hput := HV.out.put1 hs8 hown8 (fun k hk => by
    rcases hat with e | e
    · exact .inl (by rw [← e]; exact hk)
    · exact .inr (by rw [e] at hk; injection hk with hk; omega))
  replace hput := Lib.hid hput
  rw [show (s.is ++ [(⟨x, y, 3, 0, 127, b⟩ : Im)]).length = s.is.length + 1 by simp] at hput
  go_ret2
  have hq := hput.out.1.set_vr (wrap64 (vr + 1))
  refine ⟨⟨_, rfl⟩, D', c', ⟨_, hq.1⟩, Upd.after (Step.alloc Step.refl _) (hput.out.2.trans hq.2)⟩
end
end Go.Proofs.Ytflgpjdpofmbkaa
