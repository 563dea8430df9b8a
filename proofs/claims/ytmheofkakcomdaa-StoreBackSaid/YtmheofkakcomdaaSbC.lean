/-
  store: Add of a function.
-/
import Derived.Test.YtmheofkakcomdaaSbB
set_option linter.unusedVariables false
set_option linter.unusedSimpArgs false
namespace Go.Proofs.Ytmheofkakcomdaa
open Go.RowKit
/-- A function's cells. -/
def fnC (p q : ByteArray) (o : Int) (lo : ByteArray) (Ab : Option Addr) (bn bc : Nat) (Ae : Option Addr) (en ec : Nat) (Ax : Option Addr) (xn xc : Nat) : Array Value :=
  #[.string p, .string q, .int .i64 o, .string lo, .slice Ab bn bc, .slice Ae en ec, .slice Ax xn xc]
theorem fw_add {w V w1 U w2 W : World} {B Fu n cf cc c' c2 b : Nat} {Af Ac D' D2 : Option Addr} {fs : List (Option Fv)} {cells : List Int} {cs : Array Value} (H : Fw w B Fu Af n cf Ac cc fs cells) (st : Step (fun _ => False) w V) (hV : Blk V b 116 cs) (hb : w.heap.size ≤ b) (hB : B ≤ b)
    (hs1 : Step (fun k => blkOf Af = some k) V w1) (ho1 : w1.ownsRow B 126 1 (.slice D' (n + 1) c') (n + 1) (ptrs (fs ++ [some ⟨b, cs⟩]))) (hD : ∀ k, blkOf D' = some k → blkOf Af = some k ∨ w.heap.size ≤ k)
    (hU : U = w1.setCell ⟨Fu, 0, none⟩ (.slice D' (n + 1) c')) (hs2 : Step (fun k => blkOf Ac = some k) U w2) (ho2 : w2.ownsRow B 3 1 (.slice D2 (n + 1) c2) (n + 1) (i64s (cells ++ [(n : Int)]))) (hD2 : ∀ k, blkOf D2 = some k → blkOf Ac = some k ∨ w.heap.size ≤ k)
    (hW : W = w2.setCell ⟨Fu, 1, none⟩ (.slice D2 (n + 1) c2)) :
    Fw W B Fu D' (n + 1) c' D2 c2 (fs ++ [some ⟨b, cs⟩]) (cells ++ [(n : Int)]) ∧ Upd w (ffoot Fu Af Ac fs) (ffoot Fu D' D2 (fs ++ [some ⟨b, cs⟩])) W := by
  have lFu := H.blk.lt
  have lAf : ∀ k, blkOf Af = some k → k < w.heap.size := fun k hk => own_lt H.of_ k (by rwa [ownBlock_slice])
  have lAc : ∀ k, blkOf Ac = some k → k < w.heap.size := fun k hk => own_lt H.oc k (by rwa [ownBlock_slice])
  have s1 : Step (fun k => blkOf Af = some k) w w1 := (st.mono (F' := fun k => blkOf Af = some k) fun _ _ h => h.elim).trans hs1
  have sU : Step (fun k => k = Fu) w1 U := by rw [hU]; exact Step.setCell (F := fun k => k = Fu) (p := ⟨Fu, 0, none⟩) Step.refl (.inl rfl) _
  have sW : Step (fun k => k = Fu) w2 W := by rw [hW]; exact Step.setCell (F := fun k => k = Fu) (p := ⟨Fu, 1, none⟩) Step.refl (.inl rfl) _
  have b1 := H.blk.step s1 H.nef
  have bU : Blk U Fu 123 #[.slice D' (n + 1) c', .slice Ac n cc] := by rw [hU]; simpa using b1.set_ 0 (.slice D' (n + 1) c')
  have b2 := bU.step hs2 H.nec
  have bW : Blk W Fu 123 #[.slice D' (n + 1) c', .slice D2 (n + 1) c2] := by rw [hW]; simpa using b2.set_ 1 (.slice D2 (n + 1) c2)
  have c1 := own_step (own_step H.oc s1 (fun j hj e => H.nfc j e (by rwa [ownBlock_slice] at hj))) sU (fun j hj e => H.nec (by rw [ownBlock_slice] at hj; rw [← e]; exact hj))
  have p1 := own_step ho1 sU (fun j hj e => own_tag ho1 b1 (by decide) (by rw [← e]; exact hj))
  have p2 := own_step p1 hs2 (fun j hj e => own_tag2 p1 c1 (by decide) j hj (by rw [ownBlock_slice]; exact e))
  have p3 := own_step p2 sW (fun j hj e => own_tag p2 b2 (by decide) (by rw [← e]; exact hj))
  have q3 := own_step ho2 sW (fun j hj e => own_tag ho2 b2 (by decide) (by rw [← e]; exact hj))
  have e1 : ∀ f : Fv, some f ∈ fs → Blk W f.b 116 f.cs := fun f hf =>
    ((((H.each f hf).1.step s1 (H.neb hf).2.1).step sU (H.neb hf).1).step hs2 (H.neb hf).2.2).step sW (H.neb hf).1
  have e2 : Blk W b 116 cs :=
    (((hV.step hs1 (fun e => by have := lAf b e; omega)).step sU (fun e => by omega)).step hs2 (fun e => by have := lAc b e; omega)).step sW (fun e => by omega)
  refine ⟨⟨bW, p3, q3, by rw [List.length_append, ← H.lf]; rfl, by rw [List.length_append, ← H.lc]; rfl, fun f hf => ?_, H.ge⟩, ?_, fun k hk => ?_⟩
  · rcases List.mem_append.1 hf with hf | hf
    · exact ⟨e1 f hf, (H.each f hf).2⟩
    · simp at hf
      subst hf
      exact ⟨e2, hB⟩
  · exact (((s1.mono (F' := ffoot Fu Af Ac fs) fun i _ hi => .inr (.inl hi)).trans' sU (fun i hi => .inl (.inl hi))).trans' hs2 (fun i hi => .inl (.inr (.inr (.inl hi))))).trans' sW (fun i hi => .inl (.inl hi))
  · rcases hk with e | e | e | ⟨f, hf, e⟩
    · exact .inl (.inl e)
    · rcases hD k e with h1 | h1
      · exact .inl (.inr (.inl h1))
      · exact .inr h1
    · rcases hD2 k e with h1 | h1
      · exact .inl (.inr (.inr (.inl h1)))
      · exact .inr h1
    · rcases List.mem_append.1 hf with hf | hf
      · exact .inl (.inr (.inr (.inr ⟨f, hf, e⟩)))
      · simp at hf
        subst hf
        exact .inr (by rw [← e]; exact hb)
set_option maxRecDepth 100000 in
set_option maxHeartbeats 3200000 in
theorem f_add {w : World} {B Fu n cf cc : Nat} {Af Ac : Option Addr} {fs : List (Option Fv)} {cells : List Int} (p q : ByteArray) (o : Int) (lo : ByteArray) (Ab : Option Addr) (bn bc : Nat) (Ae : Option Addr) (en ec : Nat) (Ax : Option Addr) (xn xc : Nat) (h : Fw w B Fu Af n cf Ac cc fs cells) (hB : B ≤ w.heap.size) (hn : n ≤ 1000000) :
    Calls Try.prog 73 #[.pointer (some ⟨Fu, 0, none⟩), .agg #[.string p, .string q, .int .i64 o, .string lo, .slice Ab bn bc, .slice Ae en ec, .slice Ax xn xc]] w fun e w' => e = .returned (.int .i64 (n : Int)) ∧
      ∃ Af' cf' Ac' cc' b, Fw w' B Fu Af' (n + 1) cf' Ac' cc' (fs ++ [some ⟨b, fnC p q o lo Ab bn bc Ae en ec Ax xn xc⟩]) (cells ++ [(n : Int)]) ∧ Upd w (ffoot Fu Af Ac fs) (ffoot Fu Af' Ac' (fs ++ [some ⟨b, fnC p q o lo Ab bn bc Ae en ec Ax xn xc⟩])) w' := by
  have H := Lib.hid h
  have x0 := (h.blk.cell 0).trans (show _ = some (Value.slice Af n cf) from rfl)
  have nF := h.blk.lt
  have ho := h.of_
  have hbk := h.blk
  have hne := h.nef
  have z0 := h.blk.frozen 0
  obtain ⟨b, hb⟩ : ∃ b, b = w.heap.size := ⟨_, rfl⟩
  obtain ⟨V, hV⟩ : ∃ V, V = (w.alloc (.cells #[.string p, .string q, .int .i64 o, .string lo, .slice Ab bn bc, .slice Ae en ec, .slice Ax xn xc] 116)).alloc (.cells #[.pointer (some ⟨w.heap.size, 0, none⟩)] 126) := ⟨_, rfl⟩
  have st : Step (fun _ => False) w V := by rw [hV]; exact (Step.refl.alloc _).alloc _
  have HBb := Lib.hid ((Blk.new w 116 #[.string p, .string q, .int .i64 o, .string lo, .slice Ab bn bc, .slice Ae en ec, .slice Ax xn xc]).alloc (.cells #[.pointer (some ⟨w.heap.size, 0, none⟩)] 126))
  have hrn := reads_new (w.alloc (.cells #[.string p, .string q, .int .i64 o, .string lo, .slice Ab bn bc, .slice Ae en ec, .slice Ax xn xc] 116)) #[.pointer (some ⟨w.heap.size, 0, none⟩)] 126 1 1 rfl
  have hone : ∀ u ∈ #[Value.pointer (some (⟨w.heap.size, 0, none⟩ : Addr))].toList, u.oneCell' = true := by simp [Value.oneCell']
  have hm1 : n + 1 ≤ maxLen := by unfold maxLen; omega
  have hsV := st.size
  have HSV := Lib.hid st
  have hz1 : (w.alloc (.cells #[.string p, .string q, .int .i64 o, .string lo, .slice Ab bn bc, .slice Ae en ec, .slice Ax xn xc] 116)).heap.size = w.heap.size + 1 := by simp
  rw [hz1] at hrn
  rw [← hV] at HBb
  rw [← hb] at HBb
  have HVe := Lib.hid hV
  clear h hV st hz1
  go_enter Try.func73, Try.ntmps73
  go_wp2_with (at_builtin; refine wpList_append_src _ rfl _ _ (by rfl) E_fp (by rfl) ((ho.alloc _).alloc _) (by rfl) hrn hone hm1 (by omega) (by simp; omega) ?_; intro D' c' w1 hown1 hgrow hat; have hb1 := ((hbk.alloc (.cells #[.string p, .string q, .int .i64 o, .string lo, .slice Ab bn bc, .slice Ae en ec, .slice Ax xn xc] 116)).alloc (.cells #[.pointer (some ⟨w.heap.size, 0, none⟩)] 126)).grown hgrow hne; have z1 := hb1.cell 0; have f1 := hb1.frozen 0; simp at z1)
  rw [← HVe.out] at hgrow
  have hs1 : Step (fun k => blkOf Af = some k) V w1 := Step.refl.grown hgrow (fun k hk => .inl hk)
  have HB1 := Lib.hid hb1
  obtain ⟨U, hU⟩ : ∃ U, U = w1.setCell ⟨Fu, 0, none⟩ (.slice D' (n + 1) c') := ⟨_, rfl⟩
  have hbU : Blk U Fu 123 #[.slice D' (n + 1) c', .slice Ac n cc] := by
    rw [hU]
    simpa using hb1.set_ 0 (.slice D' (n + 1) c')
  have hsU : Step (fun k => k = Fu ∨ blkOf Af = some k) w U := by
    rw [hU]
    exact (((HSV.out.mono (F' := fun k => k = Fu ∨ blkOf Af = some k) fun _ _ h => h.elim).trans' hs1 (fun i hi => .inl (.inr hi)))).setCell (.inl (.inl rfl)) _
  have hoc := own_step H.out.oc hsU (fun j hj e => by
    rw [ownBlock_slice] at hj
    rcases e with e | e
    · exact H.out.nec (by rw [← e]; exact hj)
    · exact H.out.nfc j e hj)
  have hFn := H.out.nec
  have HS1 := Lib.hid hs1
  have HO1 := Lib.hid hown1
  have HAT := Lib.hid hat
  have HUe := Lib.hid hU
  have hsz := hsU.size
  have hm2 : n + 1 ≤ maxLen := hm1
  obtain ⟨F2, hF2⟩ : ∃ F2 : Nat → Prop, F2 = fun k => blkOf Ac = some k := ⟨_, rfl⟩
  have HF2 := Lib.hid hF2
  have hFJ : ¬ F2 Fu := by rw [hF2]; exact hFn
  have u0 := hbU.cell 0
  have u1 := hbU.cell 1
  simp at u0 u1
  obtain ⟨n1, hn1⟩ : ∃ n1, n1 = n + 1 := ⟨_, rfl⟩
  rw [← hn1] at u0
  have d0 := cls_cell (F := F2) (w0 := U) u0 hFJ
  have d1 := cls_cell (F := F2) (w0 := U) u1 hFJ
  have wk1 : IntKind.i64.wrap ((n1 : Int) - 1) = (n : Int) := by rw [hn1, show ((n + 1 : Nat) : Int) - 1 = (n : Int) by omega]; exact IntWalk.i64_in _ (by omega)
  have HBU := Lib.hid hbU
  rw [← hU, ← hn1]
  replace hn1 := Lib.hid hn1
  clear hF2 x0 ho z0 hbk hne hown1 hgrow hat hs1 hU hrn hone hb1 z1 f1 hbU u0 u1 hsU
  refine Mix.wp_region_mix [11, 12, 15] [11, 12] (Step F2 U) (by kernel_rfl) (by kernel_rfl) Step.refl.drew (fun hcls => ?_)
  refine Mix.wpL_reads 11 (by rfl) ?_
  simp only [List.take_succ_cons, List.drop_succ_cons, List.take_zero, List.drop_zero]
  repeat (go_big_quiet_step (fail))
  refine wpQuiet_nil ?_
  refine Mix.wpL_op (by rfl) (fun K hK => ?_)
  go_simp
  refine hK _ _ (fun hlt => Mix.cl (Step.refl.drew.alloc _)) ?_
  clear hK K
  have hone : ∀ u ∈ #[Value.int .i64 (n : Int)].toList, u.oneCell' = true := by simp [Value.oneCell']
  refine Mix.wpL_op (by rfl) (fun K hK => ?_)
  refine step_append_src _ (by rfl) _ _ (by rfl) E_int (by rfl) ((own_drew hoc).alloc _) (by rfl) (reads_new U.drew #[.int .i64 (n : Int)] 3 1 1 rfl) hone hm1 (by omega) (by simp; omega) ?_
  intro D2 c2 w2 hown2 hgrow2 hat2
  have hs2 : Step (fun k => blkOf Ac = some k) U w2 := (Step.refl.drew.alloc _).grown hgrow2 (fun k hk => .inl hk)
  have hs2' : Step F2 U w2 := by rw [HF2.out]; exact hs2
  go_simp
  refine hK _ _ (fun hlt => Mix.cl (hs2')) ?_
  clear hK K
  have HS2 := Lib.hid hs2
  have HO2 := Lib.hid hown2
  have HAT2 := Lib.hid hat2
  have HB2 := Lib.hid (HBU.out.step hs2' hFJ)
  clear hown2 hgrow2 hat2 hs2 hs2' d0 d1 hone
  refine Mix.wpL_reads 2 (by rfl) ?_
  simp only [List.take_succ_cons, List.drop_succ_cons, List.take_zero, List.drop_zero]
  repeat (go_big_quiet_step (fail))
  refine wpQuiet_nil ?_
  have f1 := HB2.out.frozen 1
  have z1 := HB2.out.cell 1
  have z0 := HB2.out.cell 0
  simp at z1 z0
  refine Mix.wpL_op (by rfl) (fun K hK => ?_)
  go_simp
  refine hK _ _ (fun hlt => absurd hlt (by decide)) ?_
  clear hK K
  refine Mix.wpL_end ?_
  have HF := Lib.hid (fw_add (W := w2.setCell ⟨Fu, 1, none⟩ (.slice D2 (n + 1) c2)) (cs := fnC p q o lo Ab bn bc Ae en ec Ax xn xc) H.out HSV.out HBb.out (by rw [hb]; exact Nat.le_refl _) (by rw [hb]; exact hB) HS1.out (by
    have := HO1.out
    rw [ptrs_append]
    rw [hb]
    exact this) (fun k hk => by
    rcases HAT.out with e | e
    · exact .inl (e ▸ hk)
    · rw [e] at hk
      simp at hk
      right; omega) HUe.out HS2.out (by rw [i64s_append]; exact HO2.out) (fun k hk => by
    rcases HAT2.out with e | e
    · exact .inl (e ▸ hk)
    · rw [e] at hk
      simp [World.drew] at hk
      right; omega) rfl)
  obtain ⟨y0, hy0⟩ : ∃ y, y = (w2.setCell ⟨Fu, 1, none⟩ (.slice D2 (n + 1) c2)) := ⟨_, rfl⟩
  rw [← hy0] at HF ⊢
  have v0 := HF.out.1.blk.cell 0
  simp at v0
  rw [← hn1.out] at v0
  clear hy0 z0 z1 f1
  go_wp2_with fail
  go_ret
  exact ⟨rfl, D', c', D2, c2, b, HF.out.1, HF.out.2⟩
end Go.Proofs.Ytmheofkakcomdaa
