/-
  journal: New, Open, Note, Mark, Back; what a journal is.
-/
import Derived.Test.YtmheofkakcomdaaStb
import Derived.Test.YtmheofkakcomdaaOpn
import Derived.Test.YtmheofkakcomdaaMix
set_option linter.unusedVariables false
set_option linter.unusedSimpArgs false
namespace Go.Proofs.Ytmheofkakcomdaa
open Go.RowKit

/-- The cells of element k of a row of structs. -/
theorem reads_row {α : Type} (c : α → List Value) (m : Nat) (hm : 0 < m) (hc : ∀ a, (c a).length = m) {w : World} {S : Nat → Prop} {A : Option Addr} {l : List α} {n : Nat} (hv : Reads w S m A n (l.flatMap c)) {k : Nat} (hk : k < l.length) :
    ∃ b off, A = some ⟨b, off, none⟩ ∧ S b ∧ b < w.heap.size ∧ ∀ j u, (c l[k])[j]? = some u → w.cell? ⟨b, off + k * m + j, none⟩ = some u := by
  have hn : 0 < n := by
    refine Nat.pos_of_ne_zero fun h => ?_
    have h1 := hv.1
    rw [flat_length c m hc, h, Nat.zero_mul] at h1
    have h2 : 0 < l.length * m := Nat.mul_pos (by omega) hm
    omega
  obtain ⟨ad, rfl, hS, hlt, hcell⟩ := hv.2 hn
  have h00 := flat_get c m hc l 0 0 (by omega) hm
  rw [Nat.zero_mul] at h00
  have h01 : (c (l[0]'(by omega)))[0]? = some ((c (l[0]'(by omega)))[0]'(by rw [hc]; exact hm)) := List.getElem?_eq_getElem _
  have h0 := hcell 0 _ (h00.trans h01)
  obtain ⟨b, off, spot⟩ := ad
  have hspot : spot = none := by
    have := World.cell?_spot h0
    simpa [Addr.add] using this
  subst hspot
  refine ⟨b, off, rfl, hS, hlt, fun j u hu => ?_⟩
  have hj : j < m := by
    have := (List.getElem?_eq_some_iff.1 hu).1
    rwa [hc] at this
  have h1 := hcell (k * m + j) u (by rw [flat_get c m hc l k j hk hj]; exact hu)
  rw [Addr.add_lit] at h1
  rw [Nat.add_assoc]
  exact h1

/-- An entry, as a record. -/
structure En where
  kind : Int
  at_ : Int
  old : Int
  bytes : List UInt8
instance : Inhabited En := ⟨⟨0, 0, 0, []⟩⟩
def En.cells (p : En) : List Value := [.int .i64 p.kind, .int .i64 p.at_, .int .u64 p.old, .string (str p.bytes)]
theorem En.four (p : En) : p.cells.length = 4 := rfl
def ens (l : List En) : List Value := l.flatMap En.cells
theorem ens_append (l m : List En) : ens (l ++ m) = ens l ++ ens m := by simp [ens]
theorem ens_len (l : List En) : (ens l).length = l.length * 4 := flat_length En.cells 4 En.four l
theorem ens_one (l : List En) : ∀ u ∈ ens l, u.oneCell' = true := by
  intro u hu
  obtain ⟨f, _, hf⟩ := List.mem_flatMap.1 hu
  simp [En.cells] at hf
  rcases hf with rfl | rfl | rfl | rfl <;> rfl
theorem ens_take (l : List En) (i : Nat) (h : i ≤ l.length) : ens (l.take i) = (ens l).take (i * 4) := by
  have e : ens l = ens (l.take i) ++ ens (l.drop i) := by rw [← ens_append, List.take_append_drop]
  have e2 : (ens (l.take i)).length = i * 4 := by rw [ens_len, List.length_take]; omega
  rw [e, ← e2, List.take_left]
theorem E_en : ElemTy Try.prog 101 92 4 40 := elem_of Try.underlying101 (z := .agg #[.int .i64 0, .int .i64 0, .int .u64 0, .string ByteArray.empty]) (by kernel_rfl) rfl (by decide)

/-- The blocks of a journal. -/
def jfoot (J : Nat) (Al Am : Option Addr) : Nat → Prop := fun k => k = J ∨ blkOf Al = some k ∨ blkOf Am = some k
/-- A journal at block J: its entries and its marks. -/
structure Jn (w : World) (B J : Nat) (Al : Option Addr) (nl cl : Nat) (Am : Option Addr) (nm cm : Nat) (es : List En) (ms : List Int) : Prop where
  blk : ∃ z, Blk w J 125 #[.slice Al nl cl, .slice Am nm cm, .int .i64 z]
  ol : w.ownsRow B 92 4 (.slice Al nl cl) nl (ens es)
  om : w.ownsRow B 3 1 (.slice Am nm cm) nm (i64s ms)
  ll : nl = es.length
  lm : nm = ms.length
  ge : B ≤ J
section
variable {w w' : World} {B J nl cl nm cm : Nat} {Al Am : Option Addr} {es : List En} {ms : List Int}
theorem Jn.step {F : Nat → Prop} (h : Jn w B J Al nl cl Am nm cm es ms) (hs : Step F w w') (hd : Apart (jfoot J Al Am) F) : Jn w' B J Al nl cl Am nm cm es ms := by
  obtain ⟨z, hz⟩ := h.blk
  exact ⟨⟨z, hz.step hs (hd J (.inl rfl))⟩, own_step h.ol hs (fun k hk => hd k (.inr (.inl (by rwa [ownBlock_slice] at hk)))), own_step h.om hs (fun k hk => hd k (.inr (.inr (by rwa [ownBlock_slice] at hk)))), h.ll, h.lm, h.ge⟩
theorem Jn.quiet (h : Jn w B J Al nl cl Am nm cm es ms) (hs : Step (fun _ => False) w w') : Jn w' B J Al nl cl Am nm cm es ms := h.step hs apart_none
theorem Jn.in_ (h : Jn w B J Al nl cl Am nm cm es ms) : In w (jfoot J Al Am) := fun k hk => by
  obtain ⟨z, hz⟩ := h.blk
  rcases hk with rfl | hk | hk
  · exact hz.lt
  · exact own_lt h.ol k (by rwa [ownBlock_slice])
  · exact own_lt h.om k (by rwa [ownBlock_slice])
theorem Jn.gef (h : Jn w B J Al nl cl Am nm cm es ms) : ∀ k, jfoot J Al Am k → B ≤ k := fun k hk => by
  rcases hk with rfl | hk | hk
  · exact h.ge
  · exact own_ge h.ol k (by rwa [ownBlock_slice])
  · exact own_ge h.om k (by rwa [ownBlock_slice])
theorem Jn.nel (h : Jn w B J Al nl cl Am nm cm es ms) : blkOf Al ≠ some J := by
  obtain ⟨z, hz⟩ := h.blk
  have := own_tag h.ol hz (by decide)
  rwa [ownBlock_slice] at this
theorem Jn.nem (h : Jn w B J Al nl cl Am nm cm es ms) : blkOf Am ≠ some J := by
  obtain ⟨z, hz⟩ := h.blk
  have := own_tag h.om hz (by decide)
  rwa [ownBlock_slice] at this
theorem Jn.nelm (h : Jn w B J Al nl cl Am nm cm es ms) : ∀ k, blkOf Al = some k → blkOf Am ≠ some k := fun k hk => by
  have := own_tag2 h.ol h.om (by decide) k (by rwa [ownBlock_slice])
  rwa [ownBlock_slice] at this
theorem Jn.drewm (h : Jn w B J Al nl cl Am nm cm es ms) : Jn w.drew B J Al nl cl Am nm cm es ms := h.quiet Step.refl.drew
/-- New marks, laid into the journal. -/
theorem Jn.putm {w1 : World} {A' : Option Addr} {n' c' : Nat} {ms' : List Int} (h : Jn w B J Al nl cl Am nm cm es ms) (hs : Step (fun k => blkOf Am = some k) w w1) (ho : w1.ownsRow B 3 1 (.slice A' n' c') n' (i64s ms')) (hn : n' = ms'.length)
    (hA : ∀ k, blkOf A' = some k → blkOf Am = some k ∨ w.heap.size ≤ k) : Jn (w1.setCell ⟨J, 1, none⟩ (.slice A' n' c')) B J Al nl cl A' n' c' es ms' ∧ Upd w (jfoot J Al Am) (jfoot J Al A') (w1.setCell ⟨J, 1, none⟩ (.slice A' n' c')) := by
  obtain ⟨z, hz⟩ := h.blk
  have hb1 := hz.step hs h.nem
  have hJ : blkOf A' ≠ some J := fun e => by
    rcases hA J e with h1 | h1
    · exact h.nem h1
    · have := hz.lt; omega
  have hl1 : w1.ownsRow B 92 4 (.slice Al nl cl) nl (ens es) := own_step h.ol hs (fun k hk e => h.nelm k (by rwa [ownBlock_slice] at hk) e)
  refine ⟨⟨⟨z, by simpa using hb1.set_ 1 (.slice A' n' c')⟩, own_set hl1 (by rw [ownBlock_slice]; exact h.nel) _, own_set ho (by rw [ownBlock_slice]; exact hJ) _, h.ll, hn, h.ge⟩, (hs.mono fun i _ hi => .inr (.inr hi)).setCell (.inl (.inl rfl)) _, fun k hk => ?_⟩
  rcases hk with rfl | hk | hk
  · exact .inl (.inl rfl)
  · exact .inl (.inr (.inl hk))
  · rcases hA k hk with h1 | h1
    · exact .inl (.inr (.inr h1))
    · exact .inr h1
/-- New entries, laid into the journal. -/
theorem Jn.putl {w1 : World} {A' : Option Addr} {n' c' : Nat} {es' : List En} (h : Jn w B J Al nl cl Am nm cm es ms) (hs : Step (fun k => blkOf Al = some k) w w1) (ho : w1.ownsRow B 92 4 (.slice A' n' c') n' (ens es')) (hn : n' = es'.length)
    (hA : ∀ k, blkOf A' = some k → blkOf Al = some k ∨ w.heap.size ≤ k) : Jn (w1.setCell ⟨J, 0, none⟩ (.slice A' n' c')) B J A' n' c' Am nm cm es' ms ∧ Upd w (jfoot J Al Am) (jfoot J A' Am) (w1.setCell ⟨J, 0, none⟩ (.slice A' n' c')) := by
  obtain ⟨z, hz⟩ := h.blk
  have hb1 := hz.step hs h.nel
  have hJ : blkOf A' ≠ some J := fun e => by
    rcases hA J e with h1 | h1
    · exact h.nel h1
    · have := hz.lt; omega
  have hm1 : w1.ownsRow B 3 1 (.slice Am nm cm) nm (i64s ms) := own_step h.om hs (fun k hk e => h.nelm k e (by rwa [ownBlock_slice] at hk))
  refine ⟨⟨⟨z, by simpa using hb1.set_ 0 (.slice A' n' c')⟩, own_set ho (by rw [ownBlock_slice]; exact hJ) _, own_set hm1 (by rw [ownBlock_slice]; exact h.nem) _, hn, h.lm, h.ge⟩, (hs.mono fun i _ hi => .inr (.inl hi)).setCell (.inl (.inl rfl)) _, fun k hk => ?_⟩
  rcases hk with rfl | hk | hk
  · exact .inl (.inl rfl)
  · rcases hA k hk with h1 | h1
    · exact .inl (.inr (.inl h1))
    · exact .inr h1
  · exact .inl (.inr (.inr hk))
end

theorem jnew_ok (w : World) (B : Nat) (hB : B ≤ w.heap.size) : Calls Try.prog 36 #[] w fun e w' => e = .returned (.pointer (some ⟨w.heap.size, 0, none⟩)) ∧ Jn w' B w.heap.size none 0 0 none 0 0 [] [] ∧ Step (fun _ => False) w w' := by
  go_enter Try.func36, Try.ntmps36
  go_wp2_with fail
  go_ret
  exact ⟨rfl, ⟨⟨0, Blk.new _ _ _⟩, World.ownsRow_nil _ _ _ _, World.ownsRow_nil _ _ _ _, rfl, rfl, hB⟩, Step.refl.alloc _⟩
theorem jopen_any (w : World) (B J : Nat) (Al : Option Addr) (nl cl : Nat) (Am : Option Addr) (nm cm : Nat) (es : List En) (ms : List Int) (h : Jn w B J Al nl cl Am nm cm es ms) :
    Calls Try.prog 60 #[.pointer (some ⟨J, 0, none⟩)] w fun e w' => e = .returned (.bool (decide (0 < nm))) ∧ w' = w := by
  obtain ⟨z, hz⟩ := h.blk
  have c1 := hz.cell 1
  simp at c1
  have e : decide ((0 : Int) < (nm : Int)) = decide (0 < nm) := by rw [Bool.eq_iff_iff]; simp
  clear h hz
  go_enter Try.func60, Try.ntmps60
  go_wp2_with fail
  go_ret
  refine ⟨?_, rfl⟩
  first | rfl | (rw [← e]; rfl)
theorem jnote_closed (w : World) (B J : Nat) (Al : Option Addr) (nl cl : Nat) (Am : Option Addr) (cm : Nat) (es : List En) (ms : List Int) (k a o b : Value) (h : Jn w B J Al nl cl Am 0 cm es ms) :
    Calls Try.prog 37 #[.pointer (some ⟨J, 0, none⟩), .agg #[k, a, o, b]] w fun e w' => e = .returned (.tuple #[]) ∧ Step (fun _ => False) w w' := by
  have HO := jopen_any (w.alloc (.cells #[k, a, o, b] 92)) B J Al nl cl Am 0 cm es ms (h.quiet (Step.refl.alloc _))
  rw [show decide (0 < 0) = false from rfl] at HO
  replace HO := Lib.hid HO
  clear h
  go_enter Try.func37, Try.ntmps37
  go_wp2_with fail
  refine HO.out.mono ?_
  rintro e w' ⟨rfl, rfl⟩
  go_wp2_with fail
  refine bodyPost_ret (v := .tuple #[]) (by simp [results, Try.results37, go_sem]) rfl ?_
  exact ⟨rfl, Step.refl.alloc _⟩
set_option maxRecDepth 100000 in
set_option maxHeartbeats 1600000 in
theorem jmark_any (w : World) (B J : Nat) (Al : Option Addr) (nl cl : Nat) (Am : Option Addr) (nm cm : Nat) (es : List En) (ms : List Int) (h : Jn w B J Al nl cl Am nm cm es ms) (hB : B ≤ w.heap.size) (hl : nl ≤ 1000000) (hm : nm ≤ 1000000) :
    Calls Try.prog 42 #[.pointer (some ⟨J, 0, none⟩)] w fun e w' => e = .returned (.int .i64 ((nm + 1 : Nat) : Int)) ∧ ∃ A' c', Jn w' B J Al nl cl A' (nm + 1) c' es (ms ++ [(nl : Int)]) ∧ Upd w (jfoot J Al Am) (jfoot J Al A') w' := by
  have H := Lib.hid h
  obtain ⟨z, hz⟩ := h.blk
  have x0 := hz.cell 0
  have x1 := hz.cell 1
  simp at x0 x1
  obtain ⟨F2, hF2⟩ : ∃ F2 : Nat → Prop, F2 = fun k => blkOf Am = some k := ⟨_, rfl⟩
  have HF2 := Lib.hid hF2
  have hFJ : ¬ F2 J := by rw [hF2]; exact h.nem
  have d0 := cls_cell (F := F2) (w0 := w) x0 hFJ
  have d1 := cls_cell (F := F2) (w0 := w) x1 hFJ
  have ho := h.om
  have hm1 : nm + 1 ≤ maxLen := by unfold maxLen; omega
  clear hF2 h
  go_enter Try.func42, Try.ntmps42
  go_wp2_with fail
  clear x0 x1
  refine Mix.wp_region_mix [10, 11, 14] [10, 11] (Step F2 w) (by kernel_rfl) (by kernel_rfl) Step.refl.drew (fun hcls => ?_)
  refine Mix.wpL_reads 10 (by rfl) ?_
  simp only [List.take_succ_cons, List.drop_succ_cons, List.take_zero, List.drop_zero]
  repeat (go_big_quiet_step (fail))
  refine wpQuiet_nil ?_
  refine Mix.wpL_op (by rfl) (fun K hK => ?_)
  go_simp
  refine hK _ _ (fun hlt => Mix.cl (Step.refl.drew.alloc _)) ?_
  clear hK K
  have hone : ∀ u ∈ #[Value.int .i64 (nl : Int)].toList, u.oneCell' = true := by simp [Value.oneCell']
  refine Mix.wpL_op (by rfl) (fun K hK => ?_)
  refine step_append_src _ (by rfl) _ _ (by rfl) E_int (by rfl) ((own_drew ho).alloc _) (by rfl) (reads_new w.drew #[.int .i64 (nl : Int)] 3 1 1 rfl) hone hm1 (by omega) (by simp; omega) ?_
  intro D' c' w1 hown1 hgrow hat
  have hs : Step (fun k => blkOf Am = some k) w w1 := (Step.refl.drew.alloc _).grown hgrow (fun k hk => .inl hk)
  have hs2 : Step F2 w w1 := by rw [HF2.out]; exact hs
  have hD : ∀ k, blkOf D' = some k → blkOf Am = some k ∨ w.heap.size ≤ k := fun k hk => by
    rcases hat with e | e
    · exact .inl (e ▸ hk)
    · rw [e] at hk
      simp [World.drew] at hk
      right; omega
  have hp := H.out.putm hs (ms' := ms ++ [(nl : Int)]) (by rw [i64s_append]; exact hown1) (by rw [H.out.lm]; simp) hD
  have HP := Lib.hid hp
  go_simp
  refine hK _ _ (fun hlt => Mix.cl hs2) ?_
  have HB1 := Lib.hid (hz.step hs2 hFJ)
  clear hK K hown1 hgrow hat hs hs2 hD hp hz ho d0 d1 hone hm1 HF2 hFJ
  refine Mix.wpL_reads 2 (by rfl) ?_
  simp only [List.take_succ_cons, List.drop_succ_cons, List.take_zero, List.drop_zero]
  repeat (go_big_quiet_step (fail))
  refine wpQuiet_nil ?_
  have f1 := HB1.out.frozen 1
  have z1 := HB1.out.cell 1
  simp at z1
  clear HB1
  refine Mix.wpL_op (by rfl) (fun K hK => ?_)
  go_simp
  refine hK _ _ (fun hlt => absurd hlt (by decide)) ?_
  clear hK K
  refine Mix.wpL_end ?_
  obtain ⟨z', hz'⟩ := HP.out.1.blk
  have y1 := hz'.cell 1
  simp at y1
  clear hz'
  go_wp2_with fail
  go_ret
  exact ⟨rfl, D', c', HP.out.1, HP.out.2⟩
set_option maxRecDepth 100000 in
set_option maxHeartbeats 1600000 in
theorem jnote_open (w : World) (B J : Nat) (Al : Option Addr) (nl cl : Nat) (Am : Option Addr) (nm cm : Nat) (es : List En) (ms : List Int) (q : En) (h : Jn w B J Al nl cl Am nm cm es ms) (hB : B ≤ w.heap.size) (hl : nl ≤ 1000000) (hm : 0 < nm) :
    Calls Try.prog 37 #[.pointer (some ⟨J, 0, none⟩), .agg #[.int .i64 q.kind, .int .i64 q.at_, .int .u64 q.old, .string (str q.bytes)]] w fun e w' => e = .returned (.tuple #[]) ∧ ∃ A' c', Jn w' B J A' (nl + 1) c' Am nm cm (es ++ [q]) ms ∧ Upd w (jfoot J Al Am) (jfoot J A' Am) w' := by
  obtain ⟨q1, q2, q3, q4⟩ := q
  simp only
  have hal : Step (fun _ => False) w (w.alloc (.cells #[.int .i64 q1, .int .i64 q2, .int .u64 q3, .string (str q4)] 92)) := Step.refl.alloc _
  have HO := jopen_any _ B J Al nl cl Am nm cm es ms (h.quiet hal)
  rw [show decide (0 < nm) = true from decide_eq_true hm] at HO
  replace HO := Lib.hid HO
  have HBx := Lib.hid (Blk.new w 92 #[.int .i64 q1, .int .i64 q2, .int .u64 q3, .string (str q4)])
  have H1 := Lib.hid (h.quiet hal)
  obtain ⟨H, hH⟩ : ∃ H, H = w.heap.size := ⟨_, rfl⟩
  obtain ⟨V, hV⟩ : ∃ V, V = w.alloc (.cells #[.int .i64 q1, .int .i64 q2, .int .u64 q3, .string (str q4)] 92) := ⟨_, rfl⟩
  rw [← hV] at HO H1 hal HBx
  rw [← hH] at HBx
  have HV := Lib.hid hV
  have HH := Lib.hid hH
  have HAL := Lib.hid hal
  have hJH : J ≠ H := by
    obtain ⟨z, hz⟩ := h.blk
    have := hz.lt
    omega
  have HAH : Hid (blkOf Al ≠ some H) := fun e => by
    have := own_lt h.ol H (by rw [ownBlock_slice]; exact e)
    omega
  clear hV hH hal h
  go_enter Try.func37, Try.ntmps37
  go_wp2_with fail
  rw [← HV.out, ← HH.out]
  refine HO.out.mono ?_
  rintro e w' ⟨rfl, rfl⟩
  obtain ⟨z, hz⟩ := H1.out.blk
  have x2 := hz.cell 2
  have f2 := hz.frozen 2
  simp at x2
  clear HO
  go_wp2_with fail
  obtain ⟨U, hU⟩ : ∃ U, U = w'.setCell ⟨J, 2, none⟩ (.int .i64 (wrap64 (z + 1))) := ⟨_, rfl⟩
  have hst : Step (fun k => k = J) w' U := by rw [hU]; exact Step.setCell (F := fun k => k = J) (w := w') (w' := w') Step.refl (p := ⟨J, 2, none⟩) (.inl rfl) _
  have hBU : Blk U H 92 #[.int .i64 q1, .int .i64 q2, .int .u64 q3, .string (str q4)] := HBx.out.step hst (Ne.symm hJH)
  have hJU : Jn U B J Al nl cl Am nm cm es ms := ⟨⟨wrap64 (z + 1), by rw [hU]; simpa using hz.set_ 2 (.int .i64 (wrap64 (z + 1)))⟩, own_step H1.out.ol hst (fun k hk e => H1.out.nel (by rw [← ownBlock_slice Al nl cl, hk, e])), own_step H1.out.om hst (fun k hk e => H1.out.nem (by rw [← ownBlock_slice Am nm cm, hk, e])), H1.out.ll, H1.out.lm, H1.out.ge⟩
  have hUp : Upd w (jfoot J Al Am) (jfoot J Al Am) U := ⟨(HAL.out.mono fun _ _ e => e.elim).trans (hst.mono fun _ _ e => .inl e), fun _ e => .inl e⟩
  have HUp := Lib.hid hUp
  have hsz : B ≤ U.heap.size := Nat.le_trans hB (Nat.le_trans HAL.out.size hst.size)
  rw [← hU]
  clear hU hUp hst hz x2 f2 HBx H1 HV HH HAL
  obtain ⟨z2, hz2⟩ := hJU.blk
  have x0 := hz2.cell 0
  have y0 := hBU.cell 0
  have y1 := hBU.cell 1
  have y2 := hBU.cell 2
  have y3 := hBU.cell 3
  simp at x0 y0 y1 y2 y3
  obtain ⟨F2, hF2⟩ : ∃ F2 : Nat → Prop, F2 = fun k => blkOf Al = some k := ⟨_, rfl⟩
  have HF2 := Lib.hid hF2
  have hFJ : ¬ F2 J := by rw [hF2]; exact hJU.nel
  have hFH : ¬ F2 H := by
    rw [hF2]
    exact HAH.out
  have d0 := cls_cell (F := F2) (w0 := U) x0 hFJ
  have e0 := cls_cell (F := F2) (w0 := U) y0 hFH
  have e1 := cls_cell (F := F2) (w0 := U) y1 hFH
  have e2 := cls_cell (F := F2) (w0 := U) y2 hFH
  have e3 := cls_cell (F := F2) (w0 := U) y3 hFH
  have ho := hJU.ol
  have hm1 : nl + 1 ≤ maxLen := by unfold maxLen; omega
  have HJU := Lib.hid hJU
  clear hF2 hJU x0 y0 y1 y2 y3 hBU
  refine Mix.wp_region_mix [6, 7, 10] [6, 7] (Step F2 U) (by kernel_rfl) (by kernel_rfl) Step.refl.drew (fun hcls => ?_)
  refine Mix.wpL_reads 6 (by rfl) ?_
  simp only [List.take_succ_cons, List.drop_succ_cons, List.take_zero, List.drop_zero]
  repeat (go_big_quiet_step (fail))
  refine wpQuiet_nil ?_
  refine Mix.wpL_op (by rfl) (fun K hK => ?_)
  go_simp
  refine hK _ _ (fun hlt => Mix.cl (Step.refl.drew.alloc _)) ?_
  clear hK K
  have hone : ∀ u ∈ #[Value.int .i64 q1, .int .i64 q2, .int .u64 q3, .string (str q4)].toList, u.oneCell' = true := by simp [Value.oneCell']
  refine Mix.wpL_op (by rfl) (fun K hK => ?_)
  refine step_append_src _ (by rfl) _ _ (by rfl) E_en (by rfl) ((own_drew ho).alloc _) (by rfl) (reads_new U.drew #[.int .i64 q1, .int .i64 q2, .int .u64 q3, .string (str q4)] 92 4 1 rfl) hone hm1 (by omega) (by simp; omega) ?_
  intro D' c' w1 hown1 hgrow hat
  have hs : Step (fun k => blkOf Al = some k) U w1 := (Step.refl.drew.alloc _).grown hgrow (fun k hk => .inl hk)
  have hs2 : Step F2 U w1 := by rw [HF2.out]; exact hs
  have hD : ∀ k, blkOf D' = some k → blkOf Al = some k ∨ U.heap.size ≤ k := fun k hk => by
    rcases hat with e | e
    · exact .inl (e ▸ hk)
    · rw [e] at hk
      simp [World.drew] at hk
      right; omega
  have hp := HJU.out.putl hs (es' := es ++ [⟨q1, q2, q3, q4⟩]) (by rw [ens_append]; exact hown1) (by rw [HJU.out.ll]; simp) hD
  have HP : Hid (Jn _ _ _ _ _ _ _ _ _ _ _ ∧ Upd _ _ _ _) := Lib.hid ⟨hp.1, HUp.out.trans hp.2⟩
  go_simp
  refine hK _ _ (fun hlt => Mix.cl hs2) ?_
  have HB1 := Lib.hid (hz2.step hs2 hFJ)
  clear hK K hown1 hgrow hat hs hs2 hD hp hz2 ho d0 e0 e1 e2 e3 hone hm1 HF2 hFJ hFH
  refine Mix.wpL_reads 2 (by rfl) ?_
  simp only [List.take_succ_cons, List.drop_succ_cons, List.take_zero, List.drop_zero]
  repeat (go_big_quiet_step (fail))
  refine wpQuiet_nil ?_
  have f1 := HB1.out.frozen 0
  have z1 := HB1.out.cell 0
  simp at z1
  clear HB1
  refine Mix.wpL_op (by rfl) (fun K hK => ?_)
  go_simp
  refine hK _ _ (fun hlt => absurd hlt (by decide)) ?_
  clear hK K
  refine Mix.wpL_end ?_
  go_wp2_with fail
  go_end0
  exact ⟨rfl, D', c', HP.out.1, HP.out.2⟩
theorem jback_err (w : World) (B J : Nat) (Al : Option Addr) (nl cl : Nat) (Am : Option Addr) (cm : Nat) (es : List En) (ms : List Int) (h : Jn w B J Al nl cl Am 0 cm es ms) :
    Calls Try.prog 48 #[.pointer (some ⟨J, 0, none⟩)] w fun e w' => e = .returned (.tuple #[.slice none 0 0, .int .i64 1]) ∧ w' = w := by
  have HO := jopen_any w B J Al nl cl Am 0 cm es ms h
  rw [show decide (0 < 0) = false from rfl] at HO
  replace HO := Lib.hid HO
  clear h
  go_enter Try.func48, Try.ntmps48
  go_wp2_with fail
  refine HO.out.mono ?_
  rintro e w' ⟨rfl, rfl⟩
  go_wp2_with fail
  go_ret2
  exact ⟨rfl, rfl⟩
theorem rev_next {α : Type} (es : List α) (n r : Nat) (hn : n = es.length) (h : n - 1 - r < es.length) (hr : r < n) : (es.drop (n - (r + 1))).reverse = (es.drop (n - r)).reverse ++ [es[n - 1 - r]] := by
  have e : n - (r + 1) = n - 1 - r := by omega
  rw [e, List.drop_eq_getElem_cons h, List.reverse_cons, show n - 1 - r + 1 = n - r by omega]
set_option maxRecDepth 100000 in
set_option maxHeartbeats 3200000 in
theorem jback_ok (w : World) (B J : Nat) (Al : Option Addr) (nl cl : Nat) (Am : Option Addr) (nm cm : Nat) (es : List En) (ms : List Int) (a : Nat) (h : Jn w B J Al nl cl Am (nm + 1) cm es (ms ++ [(a : Int)])) (hB : B ≤ w.heap.size) (ha : a ≤ nl) (hl : nl ≤ 1000000) (hm : nm ≤ 1000000) :
    Calls Try.prog 48 #[.pointer (some ⟨J, 0, none⟩)] w fun e w' => ∃ A' c', e = .returned (.tuple #[.slice A' (nl - a) c', .int .i64 0]) ∧ w'.ownsRow w.heap.size 92 4 (.slice A' (nl - a) c') (nl - a) (ens (es.drop a).reverse) ∧
      Jn w' B J Al a cl Am nm cm (es.take a) ms ∧ Step (fun k => k = J) w w' := by
  have HO := jopen_any w B J Al nl cl Am (nm + 1) cm es _ h
  rw [show decide (0 < nm + 1) = true from decide_eq_true (by omega)] at HO
  replace HO := Lib.hid HO
  have H := Lib.hid h
  obtain ⟨z, hz⟩ := h.blk
  have x0 := hz.cell 0
  have x1 := hz.cell 1
  simp at x0 x1
  have hlm := h.lm
  have hnm : nm = ms.length := by simpa using hlm
  obtain ⟨ad, u, rfl, _, hadl, hu, hca⟩ := (Reads.of_own h.om).at_ (k := nm) (by omega)
  have hu2 : u = .int .i64 (a : Int) := by
    rw [i64s_append, List.getElem?_append_right (by rw [i64s_length]; omega), i64s_length, hnm, Nat.sub_self] at hu
    simpa [i64s] using hu.symm
  subst hu2
  have i0 : (0 : Int) ≤ (nm : Int) := by omega
  have i1 : (nm : Int) < ((nm + 1 : Nat) : Int) := by omega
  have w1 : IntKind.i64.wrap (((nm + 1 : Nat) : Int) - 1) = (nm : Int) := by rw [show ((nm + 1 : Nat) : Int) - 1 = (nm : Int) by omega]; exact IntWalk.i64_in _ (by omega)
  have hcapm := own_cap h.om
  have sh := slice_hn E_int (some ad) (nm + 1) cm .i64 (nm : Int) nm rfl (by omega)
  obtain ⟨n1, hn1⟩ : ∃ n1, n1 = nm + 1 := ⟨_, rfl⟩
  rw [← hn1] at x1 i1 w1 sh H
  have HN1 := Lib.hid hn1
  have HNM := Lib.hid hnm
  have f1 := hz.frozen 1
  clear h hlm hnm hu hcapm
  clear hn1
  go_enter Try.func48, Try.ntmps48
  go_wp2_with fail
  refine HO.out.mono ?_
  rintro e w' ⟨rfl, hw⟩
  obtain rfl := hw.symm
  clear HO hw
  go_wp2_with fail
  go_quiet (fail)
  have HSV : Hid (Step (fun _ => False) w (w.drewN nq)) := Step.refl.drewN nq
  obtain ⟨V, hV⟩ : ∃ V, V = w.drewN nq := ⟨_, rfl⟩
  rw [← hV] at HSV ⊢
  clear hV x0 x1 hca
  have hzV := hz.step HSV.out id
  have HV := Lib.hid (H.out.quiet HSV.out)
  have x1 := hzV.cell 1
  simp at x1
  rw [← HN1.out] at x1
  have d1 := cls_cell (F := fun _ => False) (w0 := V) x1 id
  have f1 := hzV.frozen 1
  clear hz
  go_wp2_with fail
  clear x1
  refine Mix.wp_region_mix [14] [] (Step (fun _ => False) V) (by kernel_rfl) (by kernel_rfl) Step.refl.drew (fun hcls => ?_)
  refine Mix.wpL_reads 14 (by rfl) ?_
  simp only [List.take_succ_cons, List.drop_succ_cons, List.take_zero, List.drop_zero]
  repeat (go_big_quiet_step (fail))
  refine wpQuiet_nil ?_
  clear d1
  have z1 := (hzV.drew).cell 1
  have f1 := (hzV.drew).frozen 1
  simp at z1
  refine Mix.wpL_op (by rfl) (fun K hK => ?_)
  go_simp
  refine hK _ _ (fun hlt => absurd hlt (by decide)) ?_
  clear hK K
  refine Mix.wpL_end ?_
  have hom : V.ownsRow B 3 1 (.slice (some ad) nm cm) nm (i64s ms) := by
    have h1 := own_take HV.out.om (k := nm) (by rw [HN1.out]; omega)
    rwa [Nat.mul_one, i64s_append, HNM.out, ← i64s_length ms, List.take_left, i64s_length, ← HNM.out] at h1
  have hp := HV.out.putm (Step.refl (F := fun k => blkOf (some ad) = some k)) (ms' := ms) hom HNM.out (fun k hk => .inl hk)
  obtain ⟨U, hU⟩ : ∃ U, U = (V.setCell ⟨J, 1, none⟩ (.slice (some ad) nm cm)).drew := ⟨_, rfl⟩
  have hsU : Step (fun k => k = J) w U := by rw [hU]; exact (Step.setCell (F := fun k => k = J) (w := w) (HSV.out.mono fun _ _ e => e.elim) (p := ⟨J, 1, none⟩) (.inl rfl) _).drew
  have hJU : Jn U B J Al nl cl (some ad) nm cm es ms := by rw [hU]; exact hp.1.drewm
  have HSU := Lib.hid hsU
  have HJU := Lib.hid hJU
  rw [← hU]
  have hll : nl = es.length := hJU.ll
  have HLL := Lib.hid hll
  obtain ⟨z5, hz5⟩ := hJU.blk
  have x0 := hz5.cell 0
  simp at x0
  have wl : IntKind.i64.wrap ((nl : Int) - 1) = (nl : Int) - 1 := IntWalk.i64_in _ (by omega)
  have hcapl := own_cap hJU.ol
  have sl2 := slice_hn E_en Al nl cl .i64 (a : Int) a rfl (by omega)
  clear hU hsU hJU hp hom hz5 hll hcapl HSV HV H hzV f1 z1 sh w1 i0 i1 HN1 HNM hcls hadl
  go_wp2_with fail
  go_loopw [5, 6] (fun ov iv wr => ∃ (r c' : Nat) (D : Option Addr), r ≤ nl - a ∧ ov = .slice D r c' ∧ iv = .int .i64 ((nl : Int) - 1 - (r : Int)) ∧ Hid (wr.ownsRow U.heap.size 92 4 (.slice D r c') r (ens (es.drop (nl - r)).reverse)) ∧ Hid (Step (fun _ => False) U wr)) (fun _ iv _ => (intOf iv + 1).toNat)
  case atStart => exact ⟨0, 0, none, by omega, rfl, by simp, by
    show U.ownsRow _ _ _ _ _ _
    rw [Nat.sub_zero, HLL.out, List.drop_length]
    exact World.ownsRow_nil _ _ _ _, Step.refl⟩
  case round =>
    obtain ⟨r, c', D, hr, rfl, rfl, HO, HS⟩ := hrel
    clear x0
    have HJr := Lib.hid (HJU.out.quiet HS.out)
    obtain ⟨z6, hz6⟩ := HJr.out.blk
    have x0 := hz6.cell 0
    simp at x0
    by_cases hlt : r < nl - a
    · have g1 : (a : Int) ≤ (nl : Int) - 1 - (r : Int) := by omega
      obtain ⟨i, hi⟩ : ∃ i, i = nl - 1 - r := ⟨_, rfl⟩
      have hiI : (nl : Int) - 1 - (r : Int) = (i : Int) := by omega
      have hil : i < es.length := by rw [← HLL.out]; omega
      obtain ⟨bk, off, hAl, _, hbk, hc⟩ := reads_row En.cells 4 (by decide) En.four (Reads.of_own HJr.out.ol) hil
      have hrev := rev_next es nl r HLL.out (by rw [← hi]; exact hil) (by omega)
      have hi2 : es[nl - 1 - r]'(by rw [← hi]; exact hil) = es[i] := by congr 1; exact hi.symm
      rw [hi2] at hrev
      have HREV := Lib.hid hrev
      generalize es[i] = q at hc HREV
      obtain ⟨q1, q2, q3, q4⟩ := q
      have y0 := hc 0 _ rfl
      have y1 := hc 1 _ rfl
      have y2 := hc 2 _ rfl
      have y3 := hc 3 _ rfl
      simp only [Nat.add_zero] at y0 y1 y2 y3
      have g2 : (i : Int) < (nl : Int) := by omega
      have i0 : (0 : Int) ≤ (i : Int) := by omega
      have wi : IntKind.i64.wrap ((i : Int) - 1) = (i : Int) - 1 := IntWalk.i64_in _ (by omega)
      have hII := Lib.hid hiI
      rw [hiI] at g1 ⊢
      have hone : ∀ u ∈ #[Value.int .i64 q1, .int .i64 q2, .int .u64 q3, .string (str q4)].toList, u.oneCell' = true := by simp [Value.oneCell']
      have hm1 : r + 1 ≤ maxLen := by unfold maxLen; omega
      have hsz : U.heap.size ≤ wr.heap.size := HS.out.size
      subst hAl
      clear hc hrev hi2 hiI hi hz6 HJr
      go_wp2_with (at_builtin; refine wpList_append_src _ rfl _ _ (by rfl) E_en (by rfl) (HO.out.alloc _) (by rfl) (reads_new wr #[.int .i64 q1, .int .i64 q2, .int .u64 q3, .string (str q4)] 92 4 1 rfl) hone hm1 (by omega) (by simp; omega) ?_; intro D' c2 w1 hown1 hgrow hat)
      go_roundw
      case rel =>
        refine ⟨r + 1, c2, D', by omega, rfl, ?_, ?_, grow_step (HS.out.alloc _) hgrow (HO.out.alloc _) (Nat.le_refl _)⟩
        · have := hII.out
          congr 1
          omega
        · show w1.ownsRow _ _ _ _ _ _
          rw [HREV.out, ens_append]
          exact hown1
      case measure =>
        have := hII.out
        first | (simp [intOf]; done) | (simp [intOf]; omega)
    · obtain rfl : r = nl - a := by omega
      have g1 : ¬ (a : Int) ≤ (nl : Int) - 1 - ((nl - a : Nat) : Int) := by omega
      obtain ⟨I, hI⟩ : ∃ I, I = (nl : Int) - 1 - ((nl - a : Nat) : Int) := ⟨_, rfl⟩
      rw [← hI] at g1 ⊢
      have f0 := hz6.frozen 0
      have hol : wr.ownsRow B 92 4 (.slice Al a cl) a (ens (es.take a)) := by
        have h1 := own_take HJr.out.ol (k := a) ha
        rwa [← ens_take es a (by rw [← HLL.out]; exact ha)] at h1
      have hp := HJr.out.putl (Step.refl (F := fun k => blkOf Al = some k)) (es' := es.take a) hol (by rw [List.length_take, ← HLL.out]; omega) (fun k hk => .inl hk)
      have hsF : Step (fun k => k = J) w (wr.setCell ⟨J, 0, none⟩ (.slice Al a cl)) := Step.setCell (F := fun k => k = J) (w := w) (HSU.out.trans' HS.out (fun _ e => e.elim)) (p := ⟨J, 0, none⟩) (.inl rfl) _
      have hne : ∀ k, Value.ownBlock (.slice D (nl - a) c') = some k → ¬ k = J := fun k hk e => by
        have h1 := own_ge HO.out k hk
        have h2 := HJU.out.in_ J (.inl rfl)
        omega
      have hO := own_base (own_step HO.out (Step.setCell (F := fun k => k = J) (w := wr) (w' := wr) Step.refl (p := ⟨J, 0, none⟩) (.inl rfl) (.slice Al a cl)) hne) (base' := w.heap.size) (fun k hk => Nat.le_trans HSU.out.size (own_ge HO.out k hk))
      rw [show nl - (nl - a) = a by omega] at hO
      have HP := Lib.hid hp.1
      have HOO := Lib.hid hO
      have HSF := Lib.hid hsF
      clear hI hol hp hsF hne hO hz6 HO HS HJr HJU HSU
      go_wp2_with fail
      go_ret2
      exact ⟨D, c', rfl, HOO.out, HP.out, HSF.out⟩
end Go.Proofs.Ytmheofkakcomdaa
