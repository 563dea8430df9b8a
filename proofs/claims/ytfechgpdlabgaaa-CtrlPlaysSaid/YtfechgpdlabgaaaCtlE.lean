/-
  creelref22: blocks in a row; Below, All, with.
-/
import Derived.Test.YtfechgpdlabgaaaStkD
import Derived.Test.YtfechgpdlabgaaaOpn
import Derived.Test.YtfechgpdlabgaaaRes
set_option linter.unusedVariables false
set_option linter.unusedSimpArgs false
namespace Go.Proofs.Ytfechgpdlabgaaa
open Go.RowKit

/-- The cells of element k of a row of structs. -/
theorem reads_cells {α : Type} (c : α → List Value) (m : Nat) (hm : 0 < m) (hc : ∀ a, (c a).length = m) {w : World} {S : Nat → Prop} {A : Option Addr} {l : List α} (hv : Reads w S m A l.length (l.flatMap c)) {k : Nat} (hk : k < l.length) :
    ∃ b off, A = some ⟨b, off, none⟩ ∧ S b ∧ b < w.heap.size ∧ ∀ j u, (c l[k])[j]? = some u → w.cell? ⟨b, off + k * m + j, none⟩ = some u := by
  obtain ⟨ad, rfl, hS, hlt, hcell⟩ := hv.2 (by omega)
  have h00 := flat_get c m hc l 0 0 (by omega) hm
  rw [Nat.zero_mul] at h00
  have h01 : (c (l[0]'(by omega)))[0]? = some ((c (l[0]'(by omega)))[0]'(by rw [hc]; exact hm)) := List.getElem?_eq_getElem _
  have h0 := hcell 0 _ (h00.trans h01)
  obtain ⟨b, off, spot⟩ := ad
  have hspot : spot = none := by
    have := World.cell?_spot h0
    simpa [Addr.add] using this
  subst hspot
  refine ⟨b, off, rfl, hS, hlt, fun j u hu => ?_⟩
  have hj : j < m := by
    have := (List.getElem?_eq_some_iff.1 hu).1
    rwa [hc] at this
  have h1 := hcell (k * m + j) u (by rw [flat_get c m hc l k j hk hj]; exact hu)
  rw [Addr.add_lit] at h1
  rw [Nat.add_assoc]
  exact h1

/-- A block of the reference. -/
structure Bk where
  op : Int
  res : List UInt8
  own : List UInt8
  dead : Bool
instance : Inhabited Bk := ⟨⟨0, [], [], false⟩⟩
def Bk.cells (b : Bk) : List Value := [.int .i64 b.op, .string (str b.res), .string (str b.own), .bool b.dead]
def Bk.val (b : Bk) : Value := .agg #[.int .i64 b.op, .string (str b.res), .string (str b.own), .bool b.dead]
theorem Bk.four (b : Bk) : b.cells.length = 4 := rfl
def bks (l : List Bk) : List Value := l.flatMap Bk.cells
theorem bks_one (l : List Bk) : ∀ u ∈ bks l, u.oneCell' = true := by
  intro u hu
  obtain ⟨f, _, hf⟩ := List.mem_flatMap.1 hu
  simp [Bk.cells] at hf
  rcases hf with rfl | rfl | rfl | rfl <;> rfl
theorem bks_length (l : List Bk) : (bks l).length = l.length * 4 := flat_length Bk.cells 4 Bk.four l
theorem bks_append (l m : List Bk) : bks (l ++ m) = bks l ++ bks m := by simp [bks]
theorem bks_take (l : List Bk) (k : Nat) : (bks l).take (k * 4) = bks (l.take k) := by
  induction l generalizing k with
  | nil => simp [bks]
  | cons f l ih =>
    cases k with
    | zero => simp [bks]
    | succ k =>
      rw [List.take_succ_cons]
      show (f.cells ++ bks l).take ((k + 1) * 4) = f.cells ++ bks (l.take k)
      rw [← ih, show (k + 1) * 4 = f.cells.length + k * 4 by rw [Bk.four]; omega, List.take_length_add_append]
theorem E_bk : ElemTy Try.prog 105 104 4 48 := elem_of Try.underlying105 (z := .agg #[.int .i64 0, .string ByteArray.empty, .string ByteArray.empty, .bool false]) (by kernel_rfl) rfl (by decide)
/-- The stack: all blocks' own parts. -/
def allOwn (l : List Bk) : List UInt8 := l.flatMap Bk.own
theorem allOwn_append (l m : List Bk) : allOwn (l ++ m) = allOwn l ++ allOwn m := by simp [allOwn]
theorem allOwn_succ (l : List Bk) (k : Nat) (h : k < l.length) : allOwn (l.take (k + 1)) = allOwn (l.take k) ++ l[k].own := by
  rw [List.take_succ_eq_append_getElem h, allOwn_append]
  simp [allOwn]
theorem allOwn_take (l : List Bk) (k : Nat) : (allOwn (l.take k)).length ≤ (allOwn l).length := by
  have := allOwn_append (l.take k) (l.drop k)
  rw [List.take_append_drop] at this
  rw [this]
  simp

set_option maxRecDepth 100000 in
set_option maxHeartbeats 1600000 in
theorem r22_below {w : World} {S : Nat → Prop} {A : Option Addr} {c : Nat} {l : List Bk} (hv : Reads w S 4 A l.length (bks l)) (hl : l.length ≤ 100000) (hb : (allOwn l).length ≤ 1000000) :
    Calls Try.prog 60 #[.slice A l.length c] w fun e w' => e = .returned (.int .i64 ((allOwn (l.take (l.length - 1))).length : Int)) ∧ w' = w := by
  have hw := IntWalk.i64_in ((l.length : Int) - 1) (by omega)
  go_enter Try.func60, Try.ntmps60
  go_wp2_with fail
  go_loopw [3, 4] (fun v i wr => ∃ k : Nat, (k ≤ l.length - 1) ∧ v = .int .i64 ((allOwn (l.take k)).length : Int) ∧ i = .int .i64 (k : Int) ∧ Hid (wr = w)) (fun _ i _ => l.length - (intOf i).toNat)
  case atStart => exact ⟨0, Nat.zero_le _, rfl, rfl, by first | exact Lib.hid trivial | rfl⟩
  case round =>
    obtain ⟨k, hk, rfl, rfl, hq⟩ := hrel
    have hq' := hq.out
    subst hq'
    by_cases hlt : k < l.length - 1
    · obtain ⟨b, off, rfl, _, hbl, hc⟩ := reads_cells Bk.cells 4 (by decide) Bk.four hv (k := k) (by omega)
      have c2 := hc 2 _ rfl
      have hz := str_size l[k].own
      have i0 : (0 : Int) ≤ (k : Int) := by omega
      have i1 : (k : Int) < (l.length : Int) := by omega
      have i2 : (k : Int) < (l.length : Int) - 1 := by omega
      have hs := allOwn_succ l k (by omega)
      have ht := allOwn_take l (k + 1)
      rw [hs, List.length_append] at ht
      generalize l[k].own = o at *
      generalize hq2 : (allOwn (l.take k)).length = m at *
      have hwm := IntWalk.i64_in ((m : Int) + (o.length : Int)) (by omega)
      have HS := Lib.hid hs
      have HQ := Lib.hid hq2
      clear hs hc hq2
      go_wp2_with fail
      go_roundw
      case rel => exact ⟨k + 1, by omega, by rw [HS.out, List.length_append, HQ.out]; go_num, by go_num, by first | exact Lib.hid trivial | rfl⟩
      case measure => simp [intOf]; omega
    · have i2 : ¬ (k : Int) < (l.length : Int) - 1 := by omega
      have hkk : k = l.length - 1 := by omega
      have HK := Lib.hid hkk
      clear hkk
      go_wp2_with fail
      go_ret
      refine ⟨?_, rfl⟩
      rw [HK.out]
      rfl

set_option maxRecDepth 100000 in
set_option maxHeartbeats 1600000 in
theorem r22_all {w : World} {S : Nat → Prop} {A : Option Addr} {c : Nat} {l : List Bk} (r : List UInt8) (hv : Reads w S 4 A l.length (bks l)) (hl : l.length ≤ 100000) (hb : (allOwn l).length ≤ 1000000) (hr : r.length ≤ 1000000) :
    Calls Try.prog 58 #[.slice A l.length c, .string (str r)] w fun e w' => e = .returned (.string (str (allOwn l ++ r))) ∧ w' = w := by
  have hap := str_append (allOwn l) r
  have hz0 := str_size (allOwn l)
  have hzr := str_size r
  go_enter Try.func58, Try.ntmps58
  go_wp2_with fail
  go_loopw [5, 6] (fun v i wr => ∃ k : Nat, (k ≤ l.length) ∧ v = .string (str (allOwn (l.take k))) ∧ i = .int .i64 (k : Int) ∧ Hid (wr = w)) (fun _ i _ => l.length - (intOf i).toNat)
  case atStart => exact ⟨0, Nat.zero_le _, rfl, rfl, by first | exact Lib.hid trivial | rfl⟩
  case round =>
    obtain ⟨k, hk, rfl, rfl, hq⟩ := hrel
    have hq' := hq.out
    subst hq'
    by_cases hlt : k < l.length
    · obtain ⟨b, off, rfl, _, hbl, hc⟩ := reads_cells Bk.cells 4 (by decide) Bk.four hv (k := k) (by omega)
      have c2 := hc 2 _ rfl
      have i0 : (0 : Int) ≤ (k : Int) := by omega
      have i1 : (k : Int) < (l.length : Int) := by omega
      have hs := allOwn_succ l k (by omega)
      have hap2 := str_append (allOwn (l.take k)) l[k].own
      have hz1 := str_size (allOwn (l.take k))
      have hz2 := str_size l[k].own
      have ht := allOwn_take l (k + 1)
      rw [hs, List.length_append] at ht
      rw [← hs] at hap2
      generalize l[k].own = o at *
      clear hs hc
      go_wp2_with fail
      go_roundw
      case rel => exact ⟨k + 1, by omega, rfl, by go_num, by first | exact Lib.hid trivial | rfl⟩
      case measure => simp [intOf]; omega
    · obtain rfl : k = l.length := by omega
      rw [List.take_length] at *
      go_wp2_with fail
      go_ret
      exact ⟨rfl, rfl⟩

/-- One element of a row stored. -/
theorem own_set4 {w : World} {B g n c k : Nat} {l : List Bk} (b : Bk) (h : w.ownsRow B 104 4 (.slice (some ⟨g, 0, none⟩) n c) n (bks l)) (hk : k < l.length) :
    ((((w.setCell ⟨g, k * 4, none⟩ (.int .i64 b.op)).setCell ⟨g, k * 4 + 1, none⟩ (.string (str b.res))).setCell ⟨g, k * 4 + 2, none⟩ (.string (str b.own))).setCell ⟨g, k * 4 + 3, none⟩ (.bool b.dead)).ownsRow B 104 4 (.slice (some ⟨g, 0, none⟩) n c) n (bks (l.set k b)) := by
  have e0 : (bks l).set (k * 4 + 0) (.int .i64 b.op) = bks (l.set k { l[k] with op := b.op }) := flat_set Bk.cells 4 Bk.four l k 0 _ _ hk (by omega) rfl
  have e1 : (bks (l.set k { l[k] with op := b.op })).set (k * 4 + 1) (.string (str b.res)) = bks ((l.set k { l[k] with op := b.op }).set k { l[k] with op := b.op, res := b.res }) := flat_set Bk.cells 4 Bk.four _ k 1 _ _ (by simpa using hk) (by omega) (by simp [Bk.cells])
  rw [List.set_set] at e1
  have e2 : (bks (l.set k { l[k] with op := b.op, res := b.res })).set (k * 4 + 2) (.string (str b.own)) = bks ((l.set k { l[k] with op := b.op, res := b.res }).set k { b with dead := l[k].dead }) := flat_set Bk.cells 4 Bk.four _ k 2 _ _ (by simpa using hk) (by omega) (by simp [Bk.cells])
  rw [List.set_set] at e2
  have e3 : (bks (l.set k { b with dead := l[k].dead })).set (k * 4 + 3) (.bool b.dead) = bks ((l.set k { b with dead := l[k].dead }).set k b) := flat_set Bk.cells 4 Bk.four _ k 3 _ _ (by simpa using hk) (by omega) (by simp [Bk.cells])
  rw [List.set_set] at e3
  have h0 := own_setAt (j := k * 4 + 0) (u := .int .i64 b.op) h (by rw [bks_length]; omega)
  rw [e0] at h0
  have h1 := own_setAt (j := k * 4 + 1) (u := .string (str b.res)) h0 (by rw [bks_length]; simp; omega)
  rw [e1] at h1
  have h2 := own_setAt (j := k * 4 + 2) (u := .string (str b.own)) h1 (by rw [bks_length]; simp; omega)
  rw [e2] at h2
  have h3 := own_setAt (j := k * 4 + 3) (u := .bool b.dead) h2 (by rw [bks_length]; simp; omega)
  rw [e3] at h3
  exact h3
theorem set4_step {F : Nat → Prop} {w W : World} {g : Nat} (j0 j1 j2 j3 : Nat) {x y z u : Value} (h : Step F w W) (hN : F g ∨ w.heap.size ≤ g) :
    Step F w ((((W.setCell ⟨g, j0, none⟩ x).setCell ⟨g, j1, none⟩ y).setCell ⟨g, j2, none⟩ z).setCell ⟨g, j3, none⟩ u) :=
  (((h.setCell (p := ⟨g, j0, none⟩) hN x).setCell (p := ⟨g, j1, none⟩) hN y).setCell (p := ⟨g, j2, none⟩) hN z).setCell (p := ⟨g, j3, none⟩) hN u

set_option maxRecDepth 100000 in
set_option maxHeartbeats 1600000 in
theorem r22_with {w : World} {S : Nat → Prop} {A : Option Addr} {c : Nat} {l : List Bk} (b : Bk) (hv : Reads w S 4 A l.length (bks l)) (hl : l.length ≤ 100000) (hpos : 0 < l.length) :
    Calls Try.prog 116 #[.slice A l.length c, b.val] w fun e w' => ∃ A' c', e = .returned (.slice A' l.length c') ∧ w'.ownsRow w.heap.size 104 4 (.slice A' l.length c') l.length (bks (l.set (l.length - 1) b)) ∧ Step (fun _ => False) w w' := by
  have b1 : Blk (w.alloc (.cells #[.int .i64 b.op, .string (str b.res), .string (str b.own), .bool b.dead] 104)) w.heap.size 104 _ := Blk.new w _ _
  have s1 : Step (fun _ => False) w (w.alloc (.cells #[.int .i64 b.op, .string (str b.res), .string (str b.own), .bool b.dead] 104)) := Step.refl.alloc _
  have hz1 : (w.alloc (.cells #[.int .i64 b.op, .string (str b.res), .string (str b.own), .bool b.dead] 104)).heap.size = w.heap.size + 1 := by simp
  have hv1 := (hv.step s1 (fun _ _ => id)).step (F := fun _ => False) (Step.refl.alloc (.cells #[] 104)) (fun _ _ => id)
  have hfr : ((w.alloc (.cells #[.int .i64 b.op, .string (str b.res), .string (str b.own), .bool b.dead] 104)).alloc (.cells #[] 104)).ownsRow w.heap.size 104 4 (.slice (some ⟨(w.alloc (.cells #[.int .i64 b.op, .string (str b.res), .string (str b.own), .bool b.dead] 104)).heap.size, 0, none⟩) 0 0) 0 [] := own_fresh 4 (by omega)
  have b2 := b1.alloc (.cells #[] 104)
  have s2 := s1.alloc (.cells #[] 104)
  rw [hz1] at hfr
  have i0 : (0 : Int) ≤ (l.length : Int) - 1 := by omega
  have i1 : (l.length : Int) - 1 < (l.length : Int) := by omega
  have hw := IntWalk.i64_in ((l.length : Int) - 1) (by omega)
  have ht : ((l.length : Int) - 1).toNat = l.length - 1 := by omega
  have hone := bks_one l
  have hm : 0 + l.length ≤ maxLen := by unfold maxLen; omega
  clear hv
  go_enter Try.func116, Try.ntmps116
  go_wp2_with (at_builtin; refine wpList_append_src _ rfl _ _ (by rfl) E_bk (by rfl) hfr (by rfl) hv1 hone hm (by omega) (by simp; omega) ?_; intro A' c' w1 hown1 hgrow hat; rw [Nat.zero_add] at hown1; obtain ⟨gr, rfl, hg0, hlt1, hcl, hfz⟩ := own_row hown1 hpos; have hb3 := b2.grown hgrow (by simp [blkOf]); have m0 := hb3.cell 0; have m1 := hb3.cell 1; have m2 := hb3.cell 2; have m3 := hb3.cell 3; simp at m0 m1 m2 m3; have t0 := hcl ((l.length - 1) * 4 + 0) _ (flat_get Bk.cells 4 Bk.four l (l.length - 1) 0 (by omega) (by decide)); have t1 := hcl ((l.length - 1) * 4 + 1) _ (flat_get Bk.cells 4 Bk.four l (l.length - 1) 1 (by omega) (by decide)); have t2 := hcl ((l.length - 1) * 4 + 2) _ (flat_get Bk.cells 4 Bk.four l (l.length - 1) 2 (by omega) (by decide)); have t3 := hcl ((l.length - 1) * 4 + 3) _ (flat_get Bk.cells 4 Bk.four l (l.length - 1) 3 (by omega) (by decide)); rw [Nat.add_zero] at t0; clear hcl)
  go_ret
  have s3 : Step (fun _ => False) w w1 := s2.grown hgrow fun k hk => by simp [blkOf] at hk; right; omega
  have hown2 := own_set4 b hown1 (k := l.length - 1) (by omega)
  exact ⟨_, _, rfl, hown2, set4_step _ _ _ _ s3 (.inr hg0)⟩
end Go.Proofs.Ytfechgpdlabgaaa
