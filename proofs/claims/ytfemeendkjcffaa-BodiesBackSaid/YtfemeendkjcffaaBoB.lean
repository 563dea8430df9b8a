/-
  bodies: the types of all locals, and the reference's.
-/
import Derived.Test.YtfemeendkjcffaaBoA
import Derived.Test.YtfemeendkjcffaaPu
set_option linter.unusedVariables false
set_option linter.unusedSimpArgs false
namespace Go.Proofs.Ytfemeendkjcffaa
open Go.RowKit

def ptL (ps : List UInt8) (l : List (Nat × Nat)) (k : Nat) : List UInt8 := ps ++ loT (l.take k)
def repL (T : List UInt8) (j t : Nat) : List UInt8 := T ++ List.replicate j (UInt8.ofNat t)
theorem ptL_zero (ps : List UInt8) (l : List (Nat × Nat)) : ptL ps l 0 = ps := by simp [ptL, loT]
theorem ptL_all (ps : List UInt8) (l : List (Nat × Nat)) : ptL ps l l.length = ps ++ loT l := by simp [ptL]
theorem ptL_succ (ps : List UInt8) (l : List (Nat × Nat)) (k : Nat) (h : k < l.length) : ptL ps l (k + 1) = repL (ptL ps l k) l[k].1 l[k].2 := by rw [ptL, loT_take l k h, repL, ptL, List.append_assoc]
theorem ptL_len (ps : List UInt8) (l : List (Nat × Nat)) (k : Nat) : (ptL ps l k).length ≤ ps.length + (loT l).length := by
  have := loT_short l k
  rw [ptL, List.length_append]
  omega
theorem repL_zero (T : List UInt8) (t : Nat) : repL T 0 t = T := by simp [repL]
theorem repL_succ (T : List UInt8) (j t : Nat) : repL T (j + 1) t = repL T j t ++ [UInt8.ofNat t] := by rw [repL, List.replicate_succ', repL, List.append_assoc]
theorem repL_len (T : List UInt8) (j t : Nat) : (repL T j t).length = T.length + j := by simp [repL]

theorem make_bytes (w : World) (C : Int) (n : Nat) (hC : C = n) (hn : n ≤ 1000000) :
    (Instr.makeSlice 53 (.int .i64 0) (.int .i64 C)).run Try.prog w = .ok (.slice (some ⟨w.heap.size, 0, none⟩) 0 n) (w.alloc (.cells (madeCells #[.int .u8 0] n) 5)) := by
  subst hC
  obtain ⟨ht, _, i, z, hi, hz, hs, hby, hzs⟩ := E_u8
  have h := run_make (P := Try.prog) w 53 5 i z ht hi hz .i64 .i64 0 n (Int.le_refl _) (by omega) (by rw [hby]; omega) (by omega)
  have hz0 : z = .int .u8 0 := by
    have h1 : (Try.prog.info? 5).map (fun i => i.zero) = some (some (.int .u8 0)) := by kernel_rfl
    rw [hi] at h1
    simp only [Option.map_some, Option.some.injEq] at h1
    rw [hz] at h1
    exact Option.some.inj h1
  subst hz0
  simpa [hs, Value.cells] using h
theorem own_bytes (w : World) (n : Nat) (hn : n ≤ 1000000) (base : Nat) (hb : base ≤ w.heap.size) :
    (w.alloc (.cells (madeCells #[.int .u8 0] n) 5)).ownsRow base 5 1 (.slice (some ⟨w.heap.size, 0, none⟩) 0 n) 0 [] :=
  World.ownsRow_made w _ n hb (by unfold maxLen; omega) (by rw [size_madeCells]; omega)

set_option maxRecDepth 100000 in
set_option maxHeartbeats 1600000 in
theorem types_err (w : World) (B : Option Addr) (cc : Nat) (l : List (Nat × Nat)) (S : Nat → Prop) (hr : Reads w S 2 B l.length (l.flatMap loC)) (hb : ∀ g ∈ l, g.1 < 4294967296) (hl : l.length ≤ 100000)
    (ps rs : ByteArray) (h : locF l 0 = none) :
    Calls Try.prog 67 #[.agg #[.string ps, .string rs], .slice B l.length cc] w fun e w' => e = .returned (.tuple #[.string ⟨#[]⟩, .int .i64 23]) ∧ Step (fun _ => False) w w' := by
  have HC : Hid (∀ w', Step (fun _ => False) w w' → Calls Try.prog 66 #[.slice B l.length cc] w' fun e w'' => e = .returned (.tuple #[.int .i64 0, .int .i64 23]) ∧ Step (fun _ => False) w' w'') := fun w' hs => by
    have := count_walk w' B cc l S (hr.step hs (fun _ _ => id)) hb hl
    rw [h] at this
    exact this
  clear hr hb
  go_enter Try.func67, Try.ntmps67
  go_wp2_with fail
  refine (HC.out _ (Step.refl.alloc _)).mono ?_
  rintro e w5 ⟨rfl, hS5⟩
  have HS5 := Lib.hid ((Step.refl.alloc _).trans hS5)
  clear hS5 HC
  go_wp2_with fail
  go_ret2
  exact ⟨rfl, HS5.out⟩

set_option maxRecDepth 100000 in
set_option maxHeartbeats 3200000 in
theorem types_ok (w : World) (B : Option Addr) (cc : Nat) (l : List (Nat × Nat)) (S : Nat → Prop) (hr : Reads w S 2 B l.length (l.flatMap loC)) (hb : ∀ g ∈ l, g.1 < 4294967296 ∧ g.2 < 256) (hl : l.length ≤ 100000)
    (ps : List UInt8) (rs : ByteArray) (hps : ps.length ≤ 1000) (n : Nat) (h : locF l 0 = some n) :
    Calls Try.prog 67 #[.agg #[.string (str ps), .string rs], .slice B l.length cc] w fun e w' => e = .returned (.tuple #[.string (str (ps ++ loT l)), .int .i64 0]) ∧ Step (fun _ => False) w w' := by
  have HC : Hid (∀ w', Step (fun _ => False) w w' → Calls Try.prog 66 #[.slice B l.length cc] w' fun e w'' => e = .returned (.tuple #[.int .i64 (n : Int), .int .i64 0]) ∧ Step (fun _ => False) w' w'') := fun w' hs => by
    have := count_walk w' B cc l S (hr.step hs (fun _ _ => id)) (fun g hg => (hb g hg).1) hl
    rw [h] at this
    exact this
  have hn := locF_le l 0 n (by omega) h
  have HZ := Lib.hid (ptL_all ps l)
  obtain ⟨Z, hZ⟩ : ∃ Z, Z = ps ++ loT l := ⟨_, rfl⟩
  rw [← hZ] at HZ ⊢
  clear hZ
  have hsz := str_size ps
  have hw0 := IntWalk.i64_in ((ps.length : Int) + (n : Int)) (by omega)
  go_enter Try.func67, Try.ntmps67
  go_wp2_with fail
  refine (HC.out _ (Step.refl.alloc _)).mono ?_
  rintro e w5 ⟨rfl, hS5⟩
  have HB5 := Lib.hid ((Blk.new w 105 #[.string (str ps), .string rs]).step hS5 id)
  have HS5 := Lib.hid ((Step.refl.alloc _).trans hS5)
  clear hS5 HC
  obtain ⟨X, hX⟩ : ∃ X, X = w.heap.size := ⟨_, rfl⟩
  rw [← hX] at HB5 ⊢
  have hXl := HB5.out.lt
  clear hX
  have x0 := HB5.out.cell 0
  simp at x0
  have hmk := make_bytes w5 ((ps.length : Int) + (n : Int)) (ps.length + n) (by omega) (by omega)
  have hO := own_bytes w5 (ps.length + n) (by omega) w.heap.size HS5.out.size
  have HS6 := Lib.hid (HS5.out.alloc (.cells (madeCells #[.int .u8 0] (ps.length + n)) 5))
  have hps2 : 0 + ps.length ≤ maxLen := by unfold maxLen; omega
  go_wp2_with (at_builtin; refine wpList_append_str _ rfl _ _ (by rfl) Try.underlying9 Try.underlying53 (by kernel_rfl) (by rfl) hO (by rfl) (Nat.zero_add _).symm (by unfold maxLen; omega) (by omega) HS6.out.size ?_; intro D7 c7 w7 hown7 hgrow7 hat7)
  have HS7 := Lib.hid (grow_step HS6.out hgrow7 hO (Nat.le_refl _))
  have HO7 : Hid (w7.ownsRow w.heap.size 5 1 (.slice D7 (ptL ps l 0).length c7) (ptL ps l 0).length (u8s (ptL ps l 0))) := by
    rw [Hid, ptL_zero]
    exact hown7
  have hln : ps.length = (ptL ps l 0).length := by rw [ptL_zero]
  rw [hln]
  clear hown7 hgrow7 hat7 hO hmk x0 hln hXl hsz
  go_wp2_with fail
  go_loopw [8, 31] (fun ov iv wr => ∃ (k c' : Nat) (D : Option Addr), k ≤ l.length ∧ ov = .slice D (ptL ps l k).length c' ∧ iv = .int .i64 (k : Int) ∧ Hid (Step (fun _ => False) w wr) ∧ Hid (wr.ownsRow w.heap.size 5 1 (.slice D (ptL ps l k).length c') (ptL ps l k).length (u8s (ptL ps l k)))) (fun _ iv _ => l.length + 1 - (intOf iv).toNat)
  case atStart => exact ⟨0, c7, D7, by omega, rfl, rfl, HS7, HO7⟩
  case round =>
    obtain ⟨k, c', D, hk, rfl, rfl, HS, HO⟩ := hrel
    by_cases hlt : k < l.length
    · have hlt' : (k : Int) < (l.length : Int) := by omega
      have hw1 := IntWalk.i64_in ((k : Int) + 1) (by omega)
      obtain ⟨bb, off, rfl, _, hbl, hc⟩ := st_cells loC 2 (by decide) (fun _ => rfl) (hr.step HS.out (fun _ _ => id)) hlt
      have hg := hb l[k] (List.getElem_mem hlt)
      have HT1 := Lib.hid (ptL_succ ps l k hlt)
      have hTl := ptL_len ps l (k + 1)
      rw [HT1.out, repL_len] at hTl
      obtain ⟨T, hT⟩ : ∃ T, T = ptL ps l k := ⟨_, rfl⟩
      rw [← hT] at HO HT1 hTl ⊢
      clear hT
      generalize l[k] = g at *
      obtain ⟨N, t⟩ := g
      simp only at hg HT1 hTl
      have c0 := hc 0 _ rfl
      have c1 := hc 1 _ rfl
      simp only [Nat.add_zero] at c0 c1
      clear hc
      obtain ⟨Y, hY⟩ : ∃ Y, Y = wr.heap.size := ⟨_, rfl⟩
      go_wp2_with fail
      have HB8 := Lib.hid (Blk.new wr 217 #[.int .u32 (N : Int), .int .u8 (t : Int)])
      have HS8 := Lib.hid (HS.out.alloc (.cells #[.int .u32 (N : Int), .int .u8 (t : Int)] 217))
      have HO8 := Lib.hid (HO.out.alloc (.cells #[.int .u32 (N : Int), .int .u8 (t : Int)] 217))
      rw [← hY] at HB8 ⊢
      clear HS HO c0 c1 hY
      obtain ⟨W, hW⟩ : ∃ W, W = wr.alloc (.cells #[.int .u32 (N : Int), .int .u8 (t : Int)] 217) := ⟨_, rfl⟩
      rw [← hW] at HB8 HS8 HO8 ⊢
      clear hW
      go_loopw [8, 37] (fun ov iv wr2 => ∃ (j c2 : Nat) (D2 : Option Addr), j ≤ N ∧ ov = .slice D2 (repL T j t).length c2 ∧ iv = .int .u32 (j : Int) ∧ Hid (Step (fun _ => False) w wr2) ∧ Hid (Blk wr2 Y 217 #[.int .u32 (N : Int), .int .u8 (t : Int)]) ∧ Hid (wr2.ownsRow w.heap.size 5 1 (.slice D2 (repL T j t).length c2) (repL T j t).length (u8s (repL T j t)))) (fun _ iv _ => N + 1 - (intOf iv).toNat)
      case atStart =>
        refine ⟨0, c', D, by omega, ?_, rfl, HS8, HB8, ?_⟩
        · rw [repL_zero]
        · rw [repL_zero]; exact HO8
      case round =>
        obtain ⟨j, c2, D2, hj, rfl, rfl, HS2, HB2, HO2⟩ := hrel
        by_cases hjn : j < N
        · have hjn' : (j : Int) < (N : Int) := by omega
          have hw2 := IntWalk.u32_in ((j : Int) + 1) (by omega)
          have y1 := HB2.out.cell 1
          simp at y1
          have hYl := HB2.out.lt
          obtain ⟨U, hU⟩ : ∃ U, U = repL T j t := ⟨_, rfl⟩
          have HU : Hid (repL T (j + 1) t = U ++ [UInt8.ofNat t]) := by rw [Hid, hU, repL_succ]
          have hUl : U.length ≤ 2000 := by rw [hU, repL_len]; omega
          rw [← hU] at HO2 ⊢
          clear hU
          have hm : U.length + 1 ≤ maxLen := by unfold maxLen; omega
          have hone : ∀ u ∈ #[Value.int .u8 (t : Int)].toList, u.oneCell' = true := by simp [Value.oneCell']
          have hsz2 := HS2.out.size
          go_wp2_with (at_builtin; refine wpList_append_src _ rfl _ _ (by rfl) E_u8 (by rfl) (HO2.out.alloc _) (by rfl) (reads_new _ #[Value.int .u8 (t : Int)] 5 1 1 rfl) hone hm (by omega) (by simp; omega) ?_; intro D9 c9 w9 hown9 hgrow9 hat9)
          have HS9 := Lib.hid (grow_step (HS2.out.alloc _) hgrow9 (HO2.out.alloc _) (Nat.le_refl _))
          have HB9 := Lib.hid ((HB2.out.alloc _).grown hgrow9 (by rw [← ownBlock_slice]; exact own_tag HO2.out HB2.out (by decide)))
          have hcs : u8s U ++ #[Value.int .u8 (t : Int)].toList = u8s (repL T (j + 1) t) := by rw [HU.out, u8s_append, byte_cell t hg.2]
          have hln : U.length + 1 = (repL T (j + 1) t).length := by rw [HU.out]; simp
          rw [hcs, hln] at hown9
          rw [hln]
          go_roundw
          case rel => exact ⟨j + 1, c9, D9, by omega, rfl, by rw [Int.natCast_add]; rfl, HS9, HB9, hown9⟩
          case measure => simp [intOf]; omega
        · obtain rfl : j = N := by omega
          rw [← HT1.out] at HO2 ⊢
          go_wp2_with fail
          exact ⟨⟨k + 1, c2, D2, by omega, rfl, by rw [Int.natCast_add]; rfl, HS2, HO2⟩, by rw [show intOf (.int .i64 ((k : Int) + 1)) = ((k + 1 : Nat) : Int) from rfl, show intOf (.int .i64 (k : Int)) = (k : Int) from rfl]; omega⟩
    · obtain rfl : k = l.length := by omega
      rw [HZ.out] at HO ⊢
      have hcv := conv_bytes (c := c') (Reads.of_own HO.out)
      go_wp2_with fail
      go_ret2
      exact ⟨rfl, HS.out⟩

set_option maxRecDepth 100000 in
set_option maxHeartbeats 3200000 in
theorem rtypes_walk (w : World) (B : Option Addr) (cc : Nat) (l : List (Nat × Nat)) (S : Nat → Prop) (hr : Reads w S 2 B l.length (l.flatMap loC)) (hb : ∀ g ∈ l, g.1 < 4294967296 ∧ g.2 < 256) (hl : l.length ≤ 100000)
    (ps : List UInt8) (rs : ByteArray) (hps : ps.length ≤ 1000) (n : Nat) (h : locF l 0 = some n) :
    Calls Try.prog 69 #[.agg #[.string (str ps), .string rs], .slice B l.length cc] w fun e w' => e = .returned (.string (str (ps ++ loT l))) ∧ Step (fun _ => False) w w' := by
  have hn := locF_le l 0 n (by omega) h
  have HZ := Lib.hid (ptL_all ps l)
  obtain ⟨Z, hZ⟩ : ∃ Z, Z = ps ++ loT l := ⟨_, rfl⟩
  rw [← hZ] at HZ ⊢
  clear hZ
  go_enter Try.func69, Try.ntmps69
  go_wp2_with fail
  go_loopw [5, 6] (fun sv iv wr => ∃ (k : Nat), k ≤ l.length ∧ sv = .string (str (ptL ps l k)) ∧ iv = .int .i64 (k : Int) ∧ Hid (Step (fun _ => False) w wr)) (fun _ iv _ => l.length + 1 - (intOf iv).toNat)
  case atStart => exact ⟨0, by omega, by rw [ptL_zero], rfl, Step.refl.alloc _⟩
  case round =>
    obtain ⟨k, hk, rfl, rfl, HS⟩ := hrel
    by_cases hlt : k < l.length
    · have hlt' : (k : Int) < (l.length : Int) := by omega
      have hw1 := IntWalk.i64_in ((k : Int) + 1) (by omega)
      obtain ⟨bb, off, rfl, _, hbl, hc⟩ := st_cells loC 2 (by decide) (fun _ => rfl) (hr.step HS.out (fun _ _ => id)) hlt
      have hg := hb l[k] (List.getElem_mem hlt)
      have HT1 := Lib.hid (ptL_succ ps l k hlt)
      have hTl := ptL_len ps l (k + 1)
      rw [HT1.out, repL_len] at hTl
      obtain ⟨T, hT⟩ : ∃ T, T = ptL ps l k := ⟨_, rfl⟩
      rw [← hT] at HT1 hTl ⊢
      clear hT
      generalize l[k] = g at *
      obtain ⟨N, t⟩ := g
      simp only at hg HT1 hTl
      have hw3 := IntWalk.i64_in (N : Int) (by omega)
      have HC0 := Lib.hid (hc 0 _ rfl)
      have HC1 := Lib.hid (hc 1 _ rfl)
      clear hc
      obtain ⟨W, hW⟩ : ∃ W, W = wr := ⟨_, rfl⟩
      rw [← hW] at HC0 HC1 HS ⊢
      rw [← hW] at hbl
      clear hW
      go_wp2_with fail
      go_loopw [5, 7] (fun sv iv wr2 => ∃ (j : Nat), j ≤ N ∧ sv = .string (str (repL T j t)) ∧ iv = .int .i64 (j : Int) ∧ Hid (Step (fun _ => False) W wr2)) (fun _ iv _ => N + 1 - (intOf iv).toNat)
      case atStart => exact ⟨0, by omega, by rw [repL_zero], rfl, Step.refl⟩
      case round =>
        obtain ⟨j, hj, rfl, rfl, HS2⟩ := hrel
        have d0 := (HS2.out.cell (p := ⟨bb, off + k * 2 + 0, none⟩) hbl id).trans HC0.out
        have d1 := (HS2.out.cell (p := ⟨bb, off + k * 2 + 1, none⟩) hbl id).trans HC1.out
        simp only [Nat.add_zero] at d0
        by_cases hjn : j < N
        · have hjn' : (j : Int) < (N : Int) := by omega
          have hw2 := IntWalk.i64_in ((j : Int) + 1) (by omega)
          obtain ⟨U, hU⟩ : ∃ U, U = repL T j t := ⟨_, rfl⟩
          have HU : Hid (repL T (j + 1) t = U ++ [UInt8.ofNat t]) := by rw [Hid, hU, repL_succ]
          have hUl : U.length ≤ 2000 := by rw [hU, repL_len]; omega
          rw [← hU]
          clear hU
          have hrd := reads_new (w := wr) #[Value.int .u8 (t : Int)] 5 1 1 rfl
          have hcv := conv_bytes (l := [UInt8.ofNat t]) (c := 1) (by rw [byte_cell t hg.2]; exact hrd)
          have happ := str_append U [UInt8.ofNat t]
          have hs1 := str_size U
          have hs2 := str_size [UInt8.ofNat t]
          clear hrd
          go_wp2_with fail
          rw [← HU.out]
          exact ⟨⟨j + 1, by omega, rfl, by rw [Int.natCast_add]; rfl, HS2.out.alloc _⟩, by rw [show intOf (.int .i64 ((j : Int) + 1)) = ((j + 1 : Nat) : Int) from rfl, show intOf (.int .i64 (j : Int)) = (j : Int) from rfl]; omega⟩
        · obtain rfl : j = N := by omega
          rw [← HT1.out]
          go_wp2_with fail
          exact ⟨⟨k + 1, by omega, rfl, by rw [Int.natCast_add]; rfl, HS.out.trans HS2.out⟩, by rw [show intOf (.int .i64 ((k : Int) + 1)) = ((k + 1 : Nat) : Int) from rfl, show intOf (.int .i64 (k : Int)) = (k : Int) from rfl]; omega⟩
    · obtain rfl : k = l.length := by omega
      rw [HZ.out]
      go_wp2_with fail
      go_ret
      exact ⟨rfl, HS.out⟩
end Go.Proofs.Ytfemeendkjcffaa
