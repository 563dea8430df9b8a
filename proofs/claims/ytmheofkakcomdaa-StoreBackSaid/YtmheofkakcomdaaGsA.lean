/-
  store: a store with its globals and its owners; GlobalAt, Globals, AddGlobal.
-/
import Derived.Test.YtmheofkakcomdaaGmI
import Derived.Test.YtmheofkakcomdaaSz
set_option linter.unusedVariables false
set_option linter.unusedSimpArgs false
namespace Go.Proofs.Ytmheofkakcomdaa
open Go.RowKit
/-- A global. -/
structure Vr where
  t : Nat
  mu : Bool
  vt : Nat
  n : Nat
  o : Int
  lv : Bool
instance : Inhabited Vr := ⟨⟨0, false, 0, 0, 0, false⟩⟩
def Vr.cells (v : Vr) : List Value := [.int .u8 (v.t : Int), .bool v.mu, .int .u8 (v.vt : Int), .int .u64 (v.n : Int), .int .i64 v.o, .bool v.lv]
theorem Vr.six (v : Vr) : v.cells.length = 6 := rfl
def Vr.val (v : Vr) : Value := .agg #[.int .u8 (v.t : Int), .bool v.mu, .int .u8 (v.vt : Int), .int .u64 (v.n : Int), .int .i64 v.o, .bool v.lv]
def vrs (l : List Vr) : List Value := l.flatMap Vr.cells
theorem vrs_append (l m : List Vr) : vrs (l ++ m) = vrs l ++ vrs m := by simp [vrs]
theorem vrs_one (l : List Vr) : ∀ u ∈ vrs l, u.oneCell' = true := by
  intro u hu
  obtain ⟨f, _, hf⟩ := List.mem_flatMap.1 hu
  simp [Vr.cells] at hf
  rcases hf with rfl | rfl | rfl | rfl | rfl | rfl <;> rfl
theorem E_vr : ElemTy Try.prog 66 56 6 40 := elem_of Try.underlying66 (z := .agg #[.int .u8 0, .bool false, .int .u8 0, .int .u64 0, .int .i64 0, .bool false]) (by kernel_rfl) rfl (by decide)
structure Sg where
  S : Nat
  M : Nat
  T : Nat
  Fu : Nat
  J : Nat
  A : Option Addr
  c : Nat
  vs : List Vr
  K : Nat
  nn : Nat
  f : Int → Option Value
  D : DataW Value
/-- A store at block S. -/
structure Gw (w : World) (B : Nat) (s : Sg) : Prop where
  blk : Blk w s.S 79 #[.pointer (some ⟨s.M, 0, none⟩), .pointer (some ⟨s.T, 0, none⟩), .pointer (some ⟨s.Fu, 0, none⟩), .slice s.A s.vs.length s.c, .map (some s.K), .pointer (some ⟨s.J, 0, none⟩)]
  fn : Blk w s.Fu 123 #[.slice none 0 0, .slice none 0 0]
  jn : Jn w B s.J none 0 0 none 0 0 [] []
  own : w.ownsRow B 56 6 (.slice s.A s.vs.length s.c) s.vs.length (vrs s.vs)
  mp : MapI Try.prog w 3 s.K s.nn s.f s.D
  ge : B ≤ s.S ∧ B ≤ s.K
/-- What a call may turn. -/
def Sg.foot (s : Sg) : Nat → Prop := fun k => k = s.S ∨ k = s.K ∨ blkOf s.A = some k
section
variable {w w' : World} {B : Nat} {s : Sg}
theorem Gw.nk (h : Gw w B s) {g : Nat} {t : TypeId} {cs : Array Value} (hb : Blk w g t cs) : g ≠ s.K := fun e => by
  obtain ⟨⟨es, clock, h1, _⟩, _⟩ := h.mp
  rw [← e, hb] at h1
  exact absurd (Option.some.inj h1) (by simp)
theorem Gw.na (h : Gw w B s) {g : Nat} {t : TypeId} {cs : Array Value} (hb : Blk w g t cs) (hne : 56 ≠ t) : blkOf s.A ≠ some g := by
  have := own_tag h.own hb hne
  rwa [ownBlock_slice] at this
theorem Gw.step {F : Nat → Prop} (h : Gw w B s) (hs : Step F w w') (h1 : ¬ F s.S) (h2 : ¬ F s.Fu) (h3 : ¬ F s.J) (h4 : ¬ F s.K) (h5 : ∀ k, blkOf s.A = some k → ¬ F k) : Gw w' B s :=
  ⟨h.blk.step hs h1, h.fn.step hs h2, h.jn.step hs (fun k hk => by
    rcases hk with rfl | hk | hk
    · exact h3
    · simp [blkOf] at hk
    · simp [blkOf] at hk), own_step h.own hs (fun k hk => h5 k (by rwa [ownBlock_slice] at hk)), h.mp.step hs h4, h.ge⟩
theorem Gw.quiet (h : Gw w B s) (hs : Step (fun _ => False) w w') : Gw w' B s := h.step hs id id id id (fun _ _ => id)
theorem Gw.in_ (h : Gw w B s) : In w s.foot := fun k hk => by
  rcases hk with rfl | rfl | hk
  · exact h.blk.lt
  · exact h.mp.lt
  · exact own_lt h.own k (by rwa [ownBlock_slice])
theorem Gw.gef (h : Gw w B s) : ∀ k, s.foot k → B ≤ k := fun k hk => by
  rcases hk with rfl | rfl | hk
  · exact h.ge.1
  · exact h.ge.2
  · exact own_ge h.own k (by rwa [ownBlock_slice])
/-- New globals, laid into the store. -/
theorem Gw.putv {w1 : World} {A' : Option Addr} {c' : Nat} {vs' : List Vr} (h : Gw w B s) (hs : Step (fun k => blkOf s.A = some k) w w1) (ho : w1.ownsRow B 56 6 (.slice A' vs'.length c') vs'.length (vrs vs'))
    (hA : ∀ k, blkOf A' = some k → blkOf s.A = some k ∨ w.heap.size ≤ k) : Gw (w1.setCell ⟨s.S, 3, none⟩ (.slice A' vs'.length c')) B { s with A := A', c := c', vs := vs' } ∧ Upd w s.foot ({ s with A := A', c := c', vs := vs' } : Sg).foot (w1.setCell ⟨s.S, 3, none⟩ (.slice A' vs'.length c')) := by
  obtain ⟨z, hz⟩ := h.jn.blk
  have hS := h.na h.blk (by decide)
  have hF := h.na h.fn (by decide)
  have hJ := h.na hz (by decide)
  have hK : blkOf s.A ≠ some s.K := fun e => by
    obtain ⟨g, hg⟩ : ∃ g, s.A = some g ∧ g.block = s.K := by
      cases hA' : s.A with
      | none => rw [hA'] at e; simp [blkOf] at e
      | some g => exact ⟨g, rfl, by rw [hA'] at e; simpa [blkOf] using e⟩
    have hlt := own_lt h.own s.K (by rw [ownBlock_slice]; exact e)
    rcases h.own.2 with ⟨h0, _⟩ | ⟨gb, cap, cur, h0, _, hgb, _⟩
    · simp at h0
      rw [hg.1] at h0
      simp at h0
    · simp at h0
      rw [h0.1] at e
      simp [blkOf] at e
      obtain ⟨⟨es, clock, h1, _⟩, _⟩ := h.mp
      rw [← e] at h1
      rw [hgb] at h1
      exact absurd (Option.some.inj h1) (by simp)
  have hb1 := h.blk.step hs hS
  have ne1 : s.S ≠ s.Fu := fun e => absurd (h.blk.tag (by rw [e]; exact h.fn)) (by decide)
  have ne2 : s.S ≠ s.J := fun e => absurd (h.blk.tag (by rw [e]; exact hz)) (by decide)
  have ne3 : s.S ≠ s.K := h.nk h.blk
  have hAS : blkOf A' ≠ some s.S := fun e => by
    rcases hA _ e with h1 | h1
    · exact hS h1
    · have := h.blk.lt; omega
  have st : Step (fun k => k = s.S) w1 (w1.setCell ⟨s.S, 3, none⟩ (.slice A' vs'.length c')) := Step.setCell (F := fun k => k = s.S) (p := ⟨s.S, 3, none⟩) Step.refl (.inl rfl) _
  refine ⟨⟨by simpa using hb1.set_ 3 (.slice A' vs'.length c'), (h.fn.step hs hF).step st (Ne.symm ne1), (h.jn.step hs (fun k hk => by
    rcases hk with rfl | hk | hk
    · exact hJ
    · simp [blkOf] at hk
    · simp [blkOf] at hk)).step st (fun k hk => by
    rcases hk with rfl | hk | hk
    · exact Ne.symm ne2
    · simp [blkOf] at hk
    · simp [blkOf] at hk), own_set ho (by rw [ownBlock_slice]; exact hAS) _, (h.mp.step hs hK).step st (Ne.symm ne3), h.ge⟩, (hs.mono fun i _ hi => .inr (.inr hi)).setCell (.inl (.inl rfl)) _, fun k hk => ?_⟩
  rcases hk with rfl | rfl | hk
  · exact .inl (.inl rfl)
  · exact .inl (.inr (.inl rfl))
  · rcases hA k hk with h1 | h1
    · exact .inl (.inr (.inr h1))
    · exact .inr h1
end
/-- GlobalAt. -/
def gaF (l : List Vr) (a : Int) : Option Vr := if 0 ≤ a ∧ a < (l.length : Int) then (if (l.getD a.toNat default).lv = true then some (l.getD a.toNat default) else none) else none
section
variable {w : World} {B : Nat} {s : Sg}
set_option maxRecDepth 100000 in
set_option maxHeartbeats 1600000 in
theorem s_globalat (a : Int) (h : Gw w B s) (ha : s.vs.length ≤ 1000) :
    Calls Try.prog 18 #[.pointer (some ⟨s.S, 0, none⟩), .int .i64 a] w fun e w' => e = .returned (.tuple #[((gaF s.vs a).getD default).val, .bool (gaF s.vs a).isSome]) ∧ Step (fun _ => False) w w' := by
  have x3 := (h.blk.cell 3).trans (show _ = some (Value.slice s.A s.vs.length s.c) from rfl)
  have nS := h.blk.lt
  by_cases h0 : a < 0
  · have HG : Hid (gaF s.vs a = none) := by rw [Hid, gaF, if_neg (by omega)]
    clear h
    go_enter Try.func18, Try.ntmps18
    go_wp2_with fail
    refine bodyPost_ret (v := .tuple #[.agg #[.int .u8 0, .bool false, .int .u8 0, .int .u64 0, .int .i64 0, .bool false], .bool false]) (by simp [results, Try.results18, go_sem]) rfl ?_
    exact ⟨by rw [HG.out]; rfl, Step.refl.alloc _⟩
  · by_cases h1 : (s.vs.length : Int) ≤ a
    · have HG : Hid (gaF s.vs a = none) := by rw [Hid, gaF, if_neg (by omega)]
      clear h
      go_enter Try.func18, Try.ntmps18
      go_wp2_with fail
      refine bodyPost_ret (v := .tuple #[.agg #[.int .u8 0, .bool false, .int .u8 0, .int .u64 0, .int .i64 0, .bool false], .bool false]) (by simp [results, Try.results18, go_sem]) rfl ?_
      exact ⟨by rw [HG.out]; rfl, Step.refl.alloc _⟩
    · obtain ⟨k, rfl⟩ : ∃ k : Nat, a = (k : Int) := ⟨a.toNat, by omega⟩
      have hk : k < s.vs.length := by omega
      have HG : Hid (gaF s.vs (k : Int) = if s.vs[k].lv = true then some s.vs[k] else none) := by
        have e : s.vs.getD ((k : Int).toNat) default = s.vs[k] := by rw [List.getD_eq_getElem?_getD, Int.toNat_natCast, List.getElem?_eq_getElem hk]; rfl
        rw [Hid, gaF, if_pos (by omega), e]
      obtain ⟨bk, off, hA, _, hbl, hc⟩ := reads_row Vr.cells 6 (by decide) Vr.six (Reads.of_own h.own) hk
      rw [hA] at x3
      have g1 : (k : Int) < (s.vs.length : Int) := by omega
      have g0 : (0 : Int) ≤ (k : Int) := by omega
      obtain ⟨v, hv⟩ : ∃ v, v = s.vs[k] := ⟨_, rfl⟩
      rw [← hv] at hc HG
      clear h hA hv
      obtain ⟨t, mu, vt, n, o, lv⟩ := v
      have c0 := hc 0 _ rfl
      have c1 := hc 1 _ rfl
      have c2 := hc 2 _ rfl
      have c3 := hc 3 _ rfl
      have c4 := hc 4 _ rfl
      have c5 := hc 5 _ rfl
      simp only [Nat.add_zero] at c0
      simp only at c0 c1 c2 c3 c4 c5
      clear hc
      cases lv with
      | false =>
        go_enter Try.func18, Try.ntmps18
        go_wp2_with fail
        refine bodyPost_ret (v := .tuple #[.agg #[.int .u8 0, .bool false, .int .u8 0, .int .u64 0, .int .i64 0, .bool false], .bool false]) (by simp [results, Try.results18, go_sem]) rfl ?_
        exact ⟨by rw [HG.out]; rfl, Step.refl.alloc _⟩
      | true =>
        go_enter Try.func18, Try.ntmps18
        go_wp2_with fail
        refine bodyPost_ret (v := .tuple #[.agg #[.int .u8 (t : Int), .bool mu, .int .u8 (vt : Int), .int .u64 (n : Int), .int .i64 o, .bool true], .bool true]) (by simp [results, Try.results18, go_sem]) rfl ?_
        exact ⟨by rw [HG.out]; rfl, Step.refl.alloc _⟩
set_option maxRecDepth 100000 in
theorem s_globals (h : Gw w B s) : Calls Try.prog 21 #[.pointer (some ⟨s.S, 0, none⟩)] w fun e w' => e = .returned (.int .i64 (s.vs.length : Int)) ∧ w = w' := by
  have x3 := (h.blk.cell 3).trans (show _ = some (Value.slice s.A s.vs.length s.c) from rfl)
  clear h
  go_enter Try.func21, Try.ntmps21
  go_wp2_with fail
  go_ret
  exact ⟨rfl, rfl⟩
set_option maxRecDepth 100000 in
set_option maxHeartbeats 3200000 in
theorem s_addglobal (t vt n : Nat) (mu : Bool) (o : Int) (h : Gw w B s) (ha : s.vs.length ≤ 1000) (hB : B ≤ w.heap.size) :
    Calls Try.prog 9 #[.pointer (some ⟨s.S, 0, none⟩), .agg #[.int .u8 (t : Int), .bool mu], .agg #[.int .u8 (vt : Int), .int .u64 (n : Int)], .int .i64 o] w fun e w' =>
      e = .returned (.int .i64 (s.vs.length : Int)) ∧ ∃ A' c', Gw w' B { s with A := A', c := c', vs := s.vs ++ [⟨t, mu, vt, n, o, true⟩] } ∧ Upd w s.foot ({ s with A := A', c := c', vs := s.vs ++ [⟨t, mu, vt, n, o, true⟩] } : Sg).foot w' := by
  obtain ⟨V, hV⟩ : ∃ V, V = (w.alloc (.cells #[.int .u8 (t : Int), .bool mu] 35)).alloc (.cells #[.int .u8 (vt : Int), .int .u64 (n : Int)] 38) := ⟨_, rfl⟩
  have st : Step (fun _ => False) w V := by rw [hV]; exact (Step.refl.alloc _).alloc _
  have HT := Lib.hid ((Blk.new w 35 #[.int .u8 (t : Int), .bool mu]).alloc (.cells #[.int .u8 (vt : Int), .int .u64 (n : Int)] 38))
  have hv := Blk.new (w.alloc (.cells #[.int .u8 (t : Int), .bool mu] 35)) 38 #[.int .u8 (vt : Int), .int .u64 (n : Int)]
  simp only [World.size_alloc] at hv
  rw [← hV] at HT hv
  have HVv := Lib.hid hv
  have HW := Lib.hid (h.quiet st)
  have S1 := Lib.hid st
  have HLE := Lib.hid (Nat.le_trans hB st.size)
  obtain ⟨X, hX⟩ : ∃ X, X = w.heap.size := ⟨_, rfl⟩
  have HFT : Hid (∀ k, s.foot k → k < X) := fun k hk => by rw [hX]; exact h.in_ k hk
  rw [← hX] at HT HVv
  clear h st hv hB
  go_enter Try.func9, Try.ntmps9
  go_upto_region 1 with fail
  rw [← hV, ← hX]
  clear hV
  replace hX := Lib.hid hX
  obtain ⟨X1, hX1⟩ : ∃ X1, X1 = X + 1 := ⟨_, rfl⟩
  rw [← hX1] at HVv ⊢
  have HX1 := Lib.hid hX1
  clear hX1
  have x3 := (HW.out.blk.cell 3).trans (show _ = some (Value.slice s.A s.vs.length s.c) from rfl)
  have x5 := (HW.out.blk.cell 5).trans (show _ = some (Value.pointer (some ⟨s.J, 0, none⟩)) from rfl)
  have d3 := cls_cell (F := fun _ => False) x3 id
  have d5 := cls_cell (F := fun _ => False) x5 id
  have HN := Lib.hid (fun W (hs : Step (fun _ => False) V W) => jnote_closed W B s.J none 0 0 none 0 [] [] (.int .i64 7) (.int .i64 (s.vs.length : Int)) (.int .u64 0) (.string ⟨#[]⟩) (HW.out.jn.quiet hs))
  clear x3 x5
  refine Mix.wp_region_mix [10] [] (Step (fun _ => False) V) (by kernel_rfl) (by kernel_rfl) (Step.refl.drew) (fun hcls => ?_)
  refine Mix.wpL_reads 10 (by rfl) ?_
  simp only [List.take_succ_cons, List.drop_succ_cons, List.take_zero, List.drop_zero]
  repeat (go_big_quiet_step (fail))
  refine wpQuiet_nil ?_
  refine Mix.wpL_op (by rfl) (fun K hK => ?_)
  go_simp
  refine (HN.out _ Step.refl.drew).mono ?_
  rintro e w2 ⟨rfl, t2⟩
  refine hK _ _ (fun hlt => absurd hlt (by decide)) ?_
  clear hK K
  refine Mix.wpL_end ?_
  have st2 := Step.refl.drew.trans t2
  replace HW := Lib.hid (HW.out.quiet st2)
  replace HT := Lib.hid (HT.out.step st2 id)
  replace HVv := Lib.hid (HVv.out.step st2 id)
  replace S1 := Lib.hid (S1.out.trans st2)
  replace HLE := Lib.hid (Nat.le_trans HLE.out st2.size)
  clear st2 t2 HN d3 d5
  have x3 := (HW.out.blk.cell 3).trans (show _ = some (Value.slice s.A s.vs.length s.c) from rfl)
  have y0 := HT.out.cell 0
  have y1 := HT.out.cell 1
  have z0 := HVv.out.cell 0
  have z1 := HVv.out.cell 1
  simp at y0 y1 z0 z1
  obtain ⟨F2, hF2⟩ : ∃ F2 : Nat → Prop, F2 = fun k => blkOf s.A = some k := ⟨_, rfl⟩
  have hFS : ¬ F2 s.S := by rw [hF2]; exact HW.out.na HW.out.blk (by decide)
  have hFX : ¬ F2 X := by rw [hF2]; exact HW.out.na HT.out (by decide)
  have hFY : ¬ F2 X1 := by rw [hF2]; exact HW.out.na HVv.out (by decide)
  have d3 := cls_cell (F := F2) (w0 := w2) x3 hFS
  have e0 := cls_cell (F := F2) (w0 := w2) y0 hFX
  have e1 := cls_cell (F := F2) (w0 := w2) y1 hFX
  have f0 := cls_cell (F := F2) (w0 := w2) z0 hFY
  have f1 := cls_cell (F := F2) (w0 := w2) z1 hFY
  have ho := HW.out.own
  have hm1 : s.vs.length + 1 ≤ maxLen := by unfold maxLen; omega
  have hle := HLE.out
  have HF2 := Lib.hid hF2
  have hone : ∀ u ∈ (#[.int .u8 (t : Int), .bool mu, .int .u8 (vt : Int), .int .u64 (n : Int), .int .i64 o, .bool true] : Array Value).toList, u.oneCell' = true := by simp [Value.oneCell']
  clear hF2 x3 y0 y1 z0 z1
  go_wp2_with fail
  refine Mix.wp_region_mix [9, 10, 13] [9, 10] (Step F2 w2) (by kernel_rfl) (by kernel_rfl) (Step.refl.drew) (fun hcls => ?_)
  refine Mix.wpL_reads 9 (by rfl) ?_
  simp only [List.take_succ_cons, List.drop_succ_cons, List.take_zero, List.drop_zero]
  repeat (go_big_quiet_step (fail))
  refine wpQuiet_nil ?_
  refine Mix.wpL_op (by rfl) (fun K hK => ?_)
  go_simp
  refine hK _ _ (fun hlt => Mix.cl ((Step.refl.drew.alloc _))) ?_
  clear hK K
  refine Mix.wpL_op (by rfl) (fun K hK => ?_)
  refine step_append_src _ (by rfl) _ _ (by rfl) E_vr (by rfl) ((own_drew ho).alloc _) (by rfl) (reads_new w2.drew #[.int .u8 (t : Int), .bool mu, .int .u8 (vt : Int), .int .u64 (n : Int), .int .i64 o, .bool true] 56 6 1 rfl) hone hm1 (by omega) (by simp; omega) ?_
  intro D' c' w3 hown1 hgrow hat
  have hs : Step (fun k => blkOf s.A = some k) w2 w3 := (Step.refl.drew.alloc _).grown hgrow (fun k hk => .inl hk)
  have hs2 : Step F2 w2 w3 := by rw [HF2.out]; exact hs
  have hD : ∀ k, blkOf D' = some k → blkOf s.A = some k ∨ w2.heap.size ≤ k := fun k hk => by
    rcases hat with e | e
    · exact .inl (e ▸ hk)
    · rw [e] at hk
      simp [World.drew] at hk
      right; omega
  have hp := HW.out.putv hs (A' := D') (c' := c') (vs' := s.vs ++ [⟨t, mu, vt, n, o, true⟩]) (by rw [vrs_append, List.length_append]; exact hown1) hD
  rw [show (s.vs ++ [(⟨t, mu, vt, n, o, true⟩ : Vr)]).length = s.vs.length + 1 by rw [List.length_append]; rfl] at hp
  have HP := Lib.hid (And.intro hp.1 (Upd.after S1.out hp.2))
  go_simp
  have HB1 := Lib.hid (HW.out.blk.step hs2 hFS)
  refine hK _ _ (fun hlt => Mix.cl (hs2)) ?_
  clear hK K
  clear hown1 hgrow hat hs hD hp ho d3 e0 e1 f0 f1 hone hm1 HF2 hFX hFY hle HW HT HVv HLE S1
  refine Mix.wpL_reads 2 (by rfl) ?_
  simp only [List.take_succ_cons, List.drop_succ_cons, List.take_zero, List.drop_zero]
  repeat (go_big_quiet_step (fail))
  refine wpQuiet_nil ?_
  have g3 := HB1.out.frozen 3
  have z3 := HB1.out.cell 3
  simp at z3
  refine Mix.wpL_op (by rfl) (fun K hK => ?_)
  go_simp
  refine hK _ _ (fun hlt => absurd hlt (by decide)) ?_
  clear hK K
  refine Mix.wpL_end ?_
  clear hs2 hFS HB1 g3 z3
  have q3 := (HP.out.1.blk.cell 3).trans (show _ = some (Value.slice D' ((s.vs ++ [(⟨t, mu, vt, n, o, true⟩ : Vr)]).length) c') from rfl)
  rw [show (s.vs ++ [(⟨t, mu, vt, n, o, true⟩ : Vr)]).length = s.vs.length + 1 by rw [List.length_append]; rfl] at q3
  have hw := IntWalk.i64_in (((s.vs.length + 1 : Nat) : Int) - 1) (by omega)
  go_wp2_with fail
  go_ret
  exact ⟨by first | rfl | (congr 2; omega), D', c', HP.out.1, HP.out.2⟩
end
end Go.Proofs.Ytmheofkakcomdaa
