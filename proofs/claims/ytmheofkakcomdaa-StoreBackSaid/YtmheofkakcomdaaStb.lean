/-
  table: New, Grow, Slot, Set; what a table is.
-/
import Derived.Test.YtmheofkakcomdaaSm
set_option linter.unusedVariables false
set_option linter.unusedSimpArgs false
namespace Go.Proofs.Ytmheofkakcomdaa
open Go.RowKit

theorem E_int : ElemTy Try.prog 33 3 1 8 := elem_of Try.underlying33 (z := .int .i64 0) (by kernel_rfl) rfl (by decide)
def i64s (l : List Int) : List Value := l.map (Value.int .i64)
theorem i64s_length (l : List Int) : (i64s l).length = l.length := by simp [i64s]
theorem i64s_append (l m : List Int) : i64s (l ++ m) = i64s l ++ i64s m := by simp [i64s]
theorem i64s_one (l : List Int) : ∀ u ∈ i64s l, u.oneCell' = true := by
  intro u hu
  obtain ⟨x, _, rfl⟩ := List.mem_map.1 hu
  rfl
theorem i64s_take (l : List Int) (k : Nat) : i64s (l.take k) = (i64s l).take k := by simp [i64s]
theorem i64s_drop (l : List Int) (k : Nat) : i64s (l.drop k) = (i64s l).drop k := by simp [i64s]
theorem i64s_get (l : List Int) (k : Nat) (h : k < l.length) : (i64s l)[k]? = some (.int .i64 l[k]) := by simp [i64s, h]
theorem i64s_set (l : List Int) (k : Nat) (x : Int) : (i64s l).set k (.int .i64 x) = i64s (l.set k x) := by simp [i64s, List.map_set]

/-- The blocks of a thing: its own, and its row's. -/
def foot (M : Nat) (A : Option Addr) : Nat → Prop := fun k => k = M ∨ blkOf A = some k
/-- A table at block T: its places. -/
structure Tb (w : World) (B T : Nat) (A : Option Addr) (n c : Nat) (most : Int) (l : List Int) : Prop where
  blk : Blk w T 120 #[.slice A n c, .int .i64 most]
  own : w.ownsRow B 3 1 (.slice A n c) n (i64s l)
  len : n = l.length
  ge : B ≤ T
  le : (n : Int) ≤ most
  most_le : most ≤ 1048576
section
variable {w w' : World} {B T n c : Nat} {A : Option Addr} {most : Int} {l : List Int}
theorem Tb.step {F : Nat → Prop} (h : Tb w B T A n c most l) (hs : Step F w w') (hd : Apart (foot T A) F) : Tb w' B T A n c most l :=
  ⟨h.blk.step hs (hd T (.inl rfl)), own_step h.own hs (fun k hk => hd k (.inr (by rwa [ownBlock_slice] at hk))), h.len, h.ge, h.le, h.most_le⟩
theorem Tb.quiet (h : Tb w B T A n c most l) (hs : Step (fun _ => False) w w') : Tb w' B T A n c most l := h.step hs apart_none
theorem Tb.ne (h : Tb w B T A n c most l) : blkOf A ≠ some T := by
  have := own_tag h.own h.blk (by decide)
  rwa [ownBlock_slice] at this
theorem Tb.in_ (h : Tb w B T A n c most l) : In w (foot T A) := fun k hk => by
  rcases hk with rfl | hk
  · exact h.blk.lt
  · exact own_lt h.own k (by rwa [ownBlock_slice])
theorem Tb.gef (h : Tb w B T A n c most l) : ∀ k, foot T A k → B ≤ k := fun k hk => by
  rcases hk with rfl | hk
  · exact h.ge
  · exact own_ge h.own k (by rwa [ownBlock_slice])
/-- A row anew, laid into the table. -/
theorem Tb.put {w1 : World} {A' : Option Addr} {n' c' : Nat} {l' : List Int} (h : Tb w B T A n c most l) (hs : Step (fun k => blkOf A = some k) w w1) (ho : w1.ownsRow B 3 1 (.slice A' n' c') n' (i64s l')) (hn : n' = l'.length) (hle : (n' : Int) ≤ most)
    (hA : ∀ k, blkOf A' = some k → blkOf A = some k ∨ w.heap.size ≤ k) : Tb (w1.setCell ⟨T, 0, none⟩ (.slice A' n' c')) B T A' n' c' most l' ∧ Upd w (foot T A) (foot T A') (w1.setCell ⟨T, 0, none⟩ (.slice A' n' c')) := by
  have hb1 := h.blk.step hs h.ne
  have hT : blkOf A' ≠ some T := fun e => by
    rcases hA T e with h1 | h1
    · exact h.ne h1
    · have := h.blk.lt; omega
  refine ⟨⟨by simpa using hb1.set_ 0 (.slice A' n' c'), own_set ho (by rw [ownBlock_slice]; exact hT) _, hn, h.ge, hle, h.most_le⟩, (hs.mono fun i _ hi => .inr hi).setCell (.inl (.inl rfl)) _, fun k hk => ?_⟩
  rcases hk with rfl | hk
  · exact .inl (.inl rfl)
  · rcases hA k hk with h1 | h1
    · exact .inl (.inr h1)
    · exact .inr h1
end

set_option maxRecDepth 100000 in
set_option maxHeartbeats 1600000 in
theorem tgrow_ok (w : World) (B T : Nat) (A : Option Addr) (n c : Nat) (most : Int) (l : List Int) (k : Nat) (h : Tb w B T A n c most l) (hB : B ≤ w.heap.size) (hk : (n : Int) + (k : Int) ≤ most) :
    Calls Try.prog 59 #[.pointer (some ⟨T, 0, none⟩), .int .i64 (k : Int)] w fun e w' => e = .returned (.bool true) ∧ ∃ A' c', Tb w' B T A' (n + k) c' most (l ++ List.replicate k (-1)) ∧ Upd w (foot T A) (foot T A') w' := by
  have H := Lib.hid h
  have c0 := h.blk.cell 0
  have c1 := h.blk.cell 1
  have hml := h.most_le
  simp at c0 c1
  have g0 : decide ((k : Int) < 0) = false := decide_eq_false (by omega)
  have ws : IntKind.i64.wrap (most - (n : Int)) = most - (n : Int) := IntWalk.i64_in _ (by omega)
  have g1 : decide (most - (n : Int) < (k : Int)) = false := decide_eq_false (by omega)
  have HK := Lib.hid hk
  have hk20 : k ≤ 1048576 := by omega
  clear h hk
  go_enter Try.func59, Try.ntmps59
  go_wp2_with fail
  go_quiet (fail)
  have H1 := Lib.hid (H.out.quiet (Step.refl.drewN nq))
  have hU0 : Upd w (foot T A) (foot T A) (w.drewN nq) := Upd.refl.drewN nq
  have HU0 := Lib.hid hU0
  obtain ⟨V, hV⟩ : ∃ V, V = w.drewN nq := ⟨_, rfl⟩
  rw [← hV] at H1 HU0 ⊢
  clear hV hU0 c0 c1
  go_wp2_with fail
  go_loopw [22] (fun iv wr => ∃ (j c' : Nat) (A' : Option Addr), j ≤ k ∧ iv = .int .i64 (j : Int) ∧ Hid (Tb wr B T A' (n + j) c' most (l ++ List.replicate j (-1)) ∧ Upd w (foot T A) (foot T A') wr)) (fun iv _ => k - (intOf iv).toNat)
  case atStart => exact ⟨0, c, A, by omega, rfl, by simpa using ⟨H1.out, HU0.out⟩⟩
  case round =>
    obtain ⟨j, c', A', hj, rfl, HR⟩ := hrel
    by_cases hlt : j < k
    · have g2 : (j : Int) < (k : Int) := by omega
      have hw1 := IntWalk.i64_in ((j : Int) + 1) (by omega)
      have hT := HR.out.1
      have hUp := HR.out.2
      have c0 := hT.blk.cell 0
      have hne := hT.ne
      simp at c0
      have ho := hT.own
      have hbk := hT.blk
      have hBr : B ≤ wr.heap.size := Nat.le_trans hB hUp.1.size
      have hm : n + j + 1 ≤ maxLen := by have := HK.out; unfold maxLen; omega
      have h1 : ∀ u ∈ #[Value.int .i64 (-1)].toList, u.oneCell' = true := by simp [Value.oneCell']
      have HT := Lib.hid hT
      have HUp := Lib.hid hUp
      obtain ⟨m, hmm⟩ : ∃ m, m = n + j := ⟨_, rfl⟩
      rw [← hmm] at c0 ho hbk hm HT
      have HMM := Lib.hid hmm
      clear hT hUp HR H H1 HU0 hmm
      have hsm : m ≤ 1048576 := by have := HT.out.le; omega
      clear hml
      go_wp2_with (at_builtin; refine wpList_append_src _ rfl _ _ (by rfl) E_int (by rfl) (ho.alloc _) (by rfl) (reads_new wr #[.int .i64 (-1)] 3 1 1 rfl) h1 hm (by omega) (by simp; omega) ?_; intro D' k' w1 hown1 hgrow hat; have hb1 := (hbk.alloc (.cells #[.int .i64 (-1)] 3)).grown hgrow hne; have z1 := hb1.cell 0; have f1 := hb1.frozen 0; simp at z1)
      go_roundw
      case rel =>
        have hs : Step (fun k => blkOf A' = some k) wr w1 := (Step.refl.alloc _).grown hgrow (fun k hk => .inl hk)
        have hD : ∀ k, blkOf D' = some k → blkOf A' = some k ∨ wr.heap.size ≤ k := fun k hk => by
          rcases hat with e | e
          · exact .inl (e ▸ hk)
          · rw [e] at hk
            simp at hk
            right; omega
        have hp := HT.out.put hs (l' := l ++ List.replicate (j + 1) (-1)) (by
          rw [List.replicate_succ', ← List.append_assoc, i64s_append]
          exact hown1) (by rw [HT.out.len]; simp; omega) (by have := HK.out; have := HMM.out; omega) hD
        refine ⟨j + 1, k', D', by omega, by rw [Int.natCast_add]; rfl, ?_⟩
        rw [show n + (j + 1) = m + 1 by have := HMM.out; omega]
        exact ⟨hp.1, HUp.out.trans hp.2⟩
      case measure => first | (simp [intOf]; done) | (simp [intOf]; omega)
    · obtain rfl : j = k := by omega
      go_wp2_with fail
      go_ret
      exact ⟨rfl, A', c', HR.out.1, HR.out.2⟩
theorem tb_row {w : World} {B T : Nat} {A : Option Addr} {n c : Nat} {most : Int} {l : List Int} (h : Tb w B T A n c most l) {i : Nat} (hi : i < n) :
    ∃ g x, A = some ⟨g, 0, none⟩ ∧ g ≠ T ∧ g < w.heap.size ∧ l[i]? = some x ∧ w.cell? ⟨g, i, none⟩ = some (.int .i64 x) ∧ w.frozen? ⟨g, i, none⟩ = false := by
  obtain ⟨g, rfl, _, hlt, hc, hf⟩ := own_row h.own (by omega)
  have hil : i < l.length := by rw [← h.len]; exact hi
  exact ⟨g, l[i], rfl, fun e => h.ne (by rw [e]; rfl), hlt, List.getElem?_eq_getElem hil, hc i _ (i64s_get l i hil), hf i⟩
set_option maxRecDepth 100000 in
set_option maxHeartbeats 1600000 in
theorem tslot_ok (w : World) (B T : Nat) (A : Option Addr) (n c : Nat) (most : Int) (l : List Int) (i : Nat) (x : Int) (h : Tb w B T A n c most l) (hi : i < n) (hx : l[i]? = some x) :
    Calls Try.prog 71 #[.pointer (some ⟨T, 0, none⟩), .int .i64 (i : Int)] w fun e w' => e = .returned (.tuple #[.int .i64 x, .bool true]) ∧ w' = w := by
  obtain ⟨g, y, rfl, _, _, hy, hc, _⟩ := tb_row h hi
  obtain rfl := Option.some.inj (hx.symm.trans hy)
  have c0 := h.blk.cell 0
  simp at c0
  have i0 : (0 : Int) ≤ (i : Int) := by omega
  have i0' : decide ((i : Int) < 0) = false := decide_eq_false (by omega)
  have i1 : (i : Int) < (n : Int) := by omega
  have i1' : decide ((n : Int) ≤ (i : Int)) = false := decide_eq_false (by omega)
  have i1n : decide (n ≤ i) = false := decide_eq_false (by omega)
  clear h hx hy
  go_enter Try.func71, Try.ntmps71
  go_wp2_with fail
  go_ret2
  exact ⟨rfl, rfl⟩
set_option maxRecDepth 100000 in
set_option maxHeartbeats 1600000 in
theorem tslot_err (w : World) (B T : Nat) (A : Option Addr) (n c : Nat) (most : Int) (l : List Int) (i : Int) (h : Tb w B T A n c most l) (hi : i < 0 ∨ (n : Int) ≤ i) :
    Calls Try.prog 71 #[.pointer (some ⟨T, 0, none⟩), .int .i64 i] w fun e w' => e = .returned (.tuple #[.int .i64 (-1), .bool false]) ∧ w' = w := by
  have c0 := h.blk.cell 0
  simp at c0
  by_cases h0 : i < 0
  · have i0' : decide (i < 0) = true := decide_eq_true h0
    clear h
    go_enter Try.func71, Try.ntmps71
    go_wp2_with fail
    go_ret2
    exact ⟨rfl, rfl⟩
  · have i0' : decide (i < 0) = false := decide_eq_false h0
    have i1' : decide ((n : Int) ≤ i) = true := decide_eq_true (by omega)
    clear h hi
    go_enter Try.func71, Try.ntmps71
    go_wp2_with fail
    go_ret2
    exact ⟨rfl, rfl⟩
set_option maxRecDepth 100000 in
set_option maxHeartbeats 1600000 in
theorem tset_ok (w : World) (B T : Nat) (A : Option Addr) (n c : Nat) (most : Int) (l : List Int) (i : Nat) (x : Int) (h : Tb w B T A n c most l) (hi : i < n) (hx : -1 ≤ x) :
    Calls Try.prog 66 #[.pointer (some ⟨T, 0, none⟩), .int .i64 (i : Int), .int .i64 x] w fun e w' => e = .returned (.int .i64 0) ∧ Tb w' B T A n c most (l.set i x) ∧ Step (fun k => blkOf A = some k) w w' := by
  obtain ⟨g, y, rfl, hgT, hlt, hy, hc, hf⟩ := tb_row h hi
  have c0 := h.blk.cell 0
  simp at c0
  have i0 : (0 : Int) ≤ (i : Int) := by omega
  have i0' : decide ((i : Int) < 0) = false := decide_eq_false (by omega)
  have i1 : (i : Int) < (n : Int) := by omega
  have i1' : decide ((n : Int) ≤ (i : Int)) = false := decide_eq_false (by omega)
  have i1n : decide (n ≤ i) = false := decide_eq_false (by omega)
  have i2 : decide (x < -1) = false := decide_eq_false (by omega)
  have hst : Step (fun k => blkOf (some (⟨g, 0, none⟩ : Addr)) = some k) w (w.setCell ⟨g, i, none⟩ (.int .i64 x))   := Step.setCell (F := fun k => blkOf (some (⟨g, 0, none⟩ : Addr)) = some k) (w := w) (w' := w) Step.refl (p := ⟨g, i, none⟩) (.inl rfl) _
  have hT' : Tb (w.setCell ⟨g, i, none⟩ (.int .i64 x)) B T (some ⟨g, 0, none⟩) n c most (l.set i x) := ⟨h.blk.far (Ne.symm hgT) _, by
    rw [← i64s_set]
    exact own_setAt h.own (by rw [i64s_length, ← h.len]; exact hi), by rw [List.length_set]; exact h.len, h.ge, h.le, h.most_le⟩
  have HT := Lib.hid hT'
  have HS := Lib.hid hst
  clear h hT' hst hy
  go_enter Try.func66, Try.ntmps66
  go_wp2_with fail
  go_ret
  exact ⟨rfl, HT.out, HS.out⟩
set_option maxRecDepth 100000 in
set_option maxHeartbeats 1600000 in
theorem tset_trap (w : World) (B T : Nat) (A : Option Addr) (n c : Nat) (most : Int) (l : List Int) (i x : Int) (h : Tb w B T A n c most l) (hi : i < 0 ∨ (n : Int) ≤ i) :
    Calls Try.prog 66 #[.pointer (some ⟨T, 0, none⟩), .int .i64 i, .int .i64 x] w fun e w' => e = .returned (.int .i64 64) ∧ w' = w := by
  have c0 := h.blk.cell 0
  simp at c0
  by_cases h0 : i < 0
  · have i0' : decide (i < 0) = true := decide_eq_true h0
    clear h
    go_enter Try.func66, Try.ntmps66
    go_wp2_with fail
    go_ret
    exact ⟨rfl, rfl⟩
  · have i0' : decide (i < 0) = false := decide_eq_false h0
    have i1' : decide ((n : Int) ≤ i) = true := decide_eq_true (by omega)
    clear h hi
    go_enter Try.func66, Try.ntmps66
    go_wp2_with fail
    go_ret
    exact ⟨rfl, rfl⟩
set_option maxRecDepth 100000 in
set_option maxHeartbeats 1600000 in
theorem tset_arg (w : World) (B T : Nat) (A : Option Addr) (n c : Nat) (most : Int) (l : List Int) (i : Nat) (x : Int) (h : Tb w B T A n c most l) (hi : i < n) (hx : x < -1) :
    Calls Try.prog 66 #[.pointer (some ⟨T, 0, none⟩), .int .i64 (i : Int), .int .i64 x] w fun e w' => e = .returned (.int .i64 1) ∧ w' = w := by
  have c0 := h.blk.cell 0
  simp at c0
  have i0' : decide ((i : Int) < 0) = false := decide_eq_false (by omega)
  have i1' : decide ((n : Int) ≤ (i : Int)) = false := decide_eq_false (by omega)
  have i1n : decide (n ≤ i) = false := decide_eq_false (by omega)
  have i2 : decide (x < -1) = true := decide_eq_true hx
  clear h
  go_enter Try.func66, Try.ntmps66
  go_wp2_with fail
  go_ret
  exact ⟨rfl, rfl⟩
set_option maxRecDepth 100000 in
set_option maxHeartbeats 800000 in
theorem tnew_err (w : World) (p m : Int) (h : p < 0 ∨ m < p ∨ 1048576 < m) :
    Calls Try.prog 34 #[.int .i64 p, .int .i64 m] w fun e w' => e = .returned (.tuple #[.pointer none, .int .i64 26]) ∧ w' = w := by
  by_cases h1 : p < 0
  · have h1' : decide (p < 0) = true := decide_eq_true h1
    go_enter Try.func34, Try.ntmps34
    go_wp2_with fail
    go_ret2
    exact ⟨rfl, rfl⟩
  · have h1' : decide (p < 0) = false := decide_eq_false h1
    by_cases h2 : m < p
    · have h2' : decide (m < p) = true := decide_eq_true h2
      go_enter Try.func34, Try.ntmps34
      go_wp2_with fail
      go_ret2
      exact ⟨rfl, rfl⟩
    · have h2' : decide (m < p) = false := decide_eq_false h2
      have h3 : 1048576 < m := by omega
      have h3' : decide (1048576 < m) = true := decide_eq_true h3
      go_enter Try.func34, Try.ntmps34
      go_wp2_with fail
      go_ret2
      exact ⟨rfl, rfl⟩
set_option maxRecDepth 100000 in
set_option maxHeartbeats 800000 in
theorem tnew_ok (w : World) (p : Nat) (m : Int) (B : Nat) (h2 : (p : Int) ≤ m) (h3 : m ≤ 1048576) (hB : B ≤ w.heap.size) :
    Calls Try.prog 34 #[.int .i64 p, .int .i64 m] w fun e w' => ∃ T A c, e = .returned (.tuple #[.pointer (some ⟨T, 0, none⟩), .int .i64 0]) ∧ Tb w' B T A p c m (List.replicate p (-1)) ∧ Step (fun _ => False) w w' ∧ (∀ k, foot T A k → w.heap.size ≤ k) := by
  have g1 : decide ((p : Int) < 0) = false := decide_eq_false (by omega)
  have g2 : decide (m < (p : Int)) = false := decide_eq_false (by omega)
  have g3 : decide (1048576 < m) = false := decide_eq_false (by omega)
  have hT : Tb (w.alloc (.cells #[.slice none 0 0, .int .i64 m] 120)) B w.heap.size none 0 0 m [] := ⟨Blk.new _ _ _, World.ownsRow_nil _ _ _ _, rfl, hB, by omega, h3⟩
  have HG := Lib.hid (tgrow_ok _ B w.heap.size none 0 0 m [] p hT (by simp; omega) (by omega))
  clear hT h2
  go_enter Try.func34, Try.ntmps34
  go_wp2_with fail
  refine HG.out.mono ?_
  rintro e w1 ⟨rfl, A', c', hT1, hU⟩
  rw [Nat.zero_add, List.nil_append] at hT1
  have HT := Lib.hid hT1
  have HU := Lib.hid hU
  clear hT1 hU HG
  go_wp2_with fail
  go_ret2
  have hnew : ∀ k, foot w.heap.size none k → w.heap.size ≤ k := fun k hk => by
    rcases hk with rfl | hk
    · exact Nat.le_refl _
    · simp [blkOf] at hk
  refine ⟨_, _, _, rfl, HT.out, (Step.refl.alloc _).trans' HU.out.1 (fun i hi => .inr (hnew i hi)), fun k hk => ?_⟩
  rcases HU.out.2 k hk with h1 | h1
  · exact hnew k h1
  · simp at h1; omega
end Go.Proofs.Ytmheofkakcomdaa
