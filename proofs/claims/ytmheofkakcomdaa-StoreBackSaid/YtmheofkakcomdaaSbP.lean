/-
  store: slices.Equal, slices.Clone, Owners, Same.
-/
import Derived.Test.YtmheofkakcomdaaSbO
import Derived.Test.YtmheofkakcomdaaGsJ
import Derived.WalkSpells
set_option linter.unusedVariables false
set_option linter.unusedSimpArgs false
namespace Go.Proofs.Ytmheofkakcomdaa
open Go.RowKit
set_option maxRecDepth 100000 in
set_option maxHeartbeats 3200000 in
theorem eq_ints (w : World) (S S' : Nat → Prop) (A A' : Option Addr) (n c c' : Nat) (l : List Int) (hn : n = l.length) (hr : Reads w S 1 A n (i64s l)) (hr' : Reads w S' 1 A' n (i64s l)) (ha : n ≤ 1048576) :
    Calls Try.prog 50 #[.slice A n c, .slice A' n c'] w fun e w' => e = .returned (.bool true) ∧ Step (fun _ => False) w w' := by
  have HR := Lib.hid hr
  have HR' := Lib.hid hr'
  have HN := Lib.hid hn
  clear hr hr' hn
  go_enter Try.func50, Try.ntmps50
  go_wp2_with fail
  go_loopw [13] (fun iv wr => ∃ (j : Nat), j ≤ n ∧ iv = .int .i64 (j : Int) ∧ Hid (Step (fun _ => False) w wr)) (fun iv _ => n + 1 - (Go.RowKit.intOf iv).toNat)
  case atStart => exact ⟨0, Nat.zero_le _, rfl, Step.refl⟩
  case round =>
    obtain ⟨j, hj, rfl, HS⟩ := hrel
    by_cases hlt : j < n
    · have q1 : (j : Int) < (n : Int) := by omega
      have i0 : (0 : Int) ≤ (j : Int) := by omega
      have hw1 := IntWalk.i64_in ((j : Int) + 1) (by omega)
      have hjl : j < l.length := by rw [← HN.out]; exact hlt
      obtain ⟨b, off, hA, _, hb, hc⟩ := ins_row (HR.out.step HS.out (fun _ _ => id)) hjl
      subst hA
      obtain ⟨b', off', hA', _, hb', hc'⟩ := ins_row (HR'.out.step HS.out (fun _ _ => id)) hjl
      subst hA'
      generalize l[j] = y at *
      go_wp2_with fail
      go_quiet (fail)
      go_wp2_with fail
      go_roundw
      case rel => exact ⟨j + 1, by omega, by rw [Int.natCast_add]; rfl, HS.out.drewN _⟩
      case measure => simp [Go.RowKit.intOf]; omega
    · have q1 : ¬ (j : Int) < (n : Int) := by omega
      go_wp2_with fail
      go_ret
      exact ⟨rfl, HS.out⟩
set_option maxRecDepth 100000 in
set_option maxHeartbeats 3200000 in
theorem eq_vars (w : World) (S S' : Nat → Prop) (A A' : Option Addr) (n c c' : Nat) (l : List Vr) (hn : n = l.length) (hr : Reads w S 6 A n (vrs l)) (hr' : Reads w S' 6 A' n (vrs l)) (ha : n ≤ 1048576) :
    Calls Try.prog 51 #[.slice A n c, .slice A' n c'] w fun e w' => e = .returned (.bool true) ∧ Step (fun _ => False) w w' := by
  have HR := Lib.hid hr
  have HR' := Lib.hid hr'
  have HN := Lib.hid hn
  clear hr hr' hn
  go_enter Try.func51, Try.ntmps51
  go_wp2_with fail
  go_loopw [13] (fun iv wr => ∃ (j : Nat), j ≤ n ∧ iv = .int .i64 (j : Int) ∧ Hid (Step (fun _ => False) w wr)) (fun iv _ => n + 1 - (Go.RowKit.intOf iv).toNat)
  case atStart => exact ⟨0, Nat.zero_le _, rfl, Step.refl⟩
  case round =>
    obtain ⟨j, hj, rfl, HS⟩ := hrel
    by_cases hlt : j < n
    · have q1 : (j : Int) < (n : Int) := by omega
      have i0 : (0 : Int) ≤ (j : Int) := by omega
      have hw1 := IntWalk.i64_in ((j : Int) + 1) (by omega)
      have hjl : j < l.length := by rw [← HN.out]; exact hlt
      obtain ⟨b, off, hA, _, hb, hc⟩ := reads_row Vr.cells 6 (by decide) Vr.six (HR.out.step HS.out (fun _ _ => id)) hjl
      subst hA
      obtain ⟨b', off', hA', _, hb', hc'⟩ := reads_row Vr.cells 6 (by decide) Vr.six (HR'.out.step HS.out (fun _ _ => id)) hjl
      subst hA'
      generalize l[j] = y at *
      obtain ⟨t, mu, vt, nu, o, lv⟩ := y
      have z0 := hc 0 _ rfl
      have z1 := hc 1 _ rfl
      have z2 := hc 2 _ rfl
      have z3 := hc 3 _ rfl
      have z4 := hc 4 _ rfl
      have z5 := hc 5 _ rfl
      have y0 := hc' 0 _ rfl
      have y1 := hc' 1 _ rfl
      have y2 := hc' 2 _ rfl
      have y3 := hc' 3 _ rfl
      have y4 := hc' 4 _ rfl
      have y5 := hc' 5 _ rfl
      simp only [Nat.add_zero] at z0 y0
      simp only at z0 z1 z2 z3 z4 z5 y0 y1 y2 y3 y4 y5
      clear hc hc'
      go_wp2_with fail
      go_quiet (fail)
      go_wp2_with fail
      go_roundw
      case rel => exact ⟨j + 1, by omega, by rw [Int.natCast_add]; rfl, HS.out.drewN _⟩
      case measure => simp [Go.RowKit.intOf]; omega
    · have q1 : ¬ (j : Int) < (n : Int) := by omega
      go_wp2_with fail
      go_ret
      exact ⟨rfl, HS.out⟩
set_option maxRecDepth 100000 in
set_option maxHeartbeats 3200000 in
theorem cl_vars (w : World) (A : Option Addr) (n c : Nat) (S : Nat → Prop) (xs : List Value) (h : Reads w S 6 A n xs) (hn : n ≤ 100000) (h1 : ∀ u ∈ xs, u.oneCell' = true) :
    Calls Try.prog 45 #[.slice A n c] w fun e w' => ∃ D' c', e = .returned (.slice D' n c') ∧ w'.ownsRow w.heap.size 56 6 (.slice D' n c') n xs ∧ Step (fun _ => False) w w' := by
  have q34 : ∀ (w : World) (a : Option Addr) (n c n' c' : Nat), (binOp .eql 66 (.slice a n c) (.slice none n' c')).run Try.prog w = .ok (.bool a.isNone) w := fun w a n c n' c' => Lib.run_eql_slice_nil w _ _ a n c n' c' Try.underlying66
  cases A with
  | none =>
    have h0 : n = 0 ∧ xs = [] := by
      have hn0 : n = 0 := Nat.eq_zero_of_not_pos fun hp => by
        obtain ⟨ad, e, _⟩ := h.2 hp
        cases e
      subst hn0
      exact ⟨rfl, List.eq_nil_of_length_eq_zero (by simpa using h.1)⟩
    obtain ⟨rfl, rfl⟩ := h0
    clear h
    go_enter Try.func45, Try.ntmps45
    go_wp2_with fail
    go_ret
    exact ⟨none, 0, rfl, World.ownsRow_nil _ _ _ _, Step.refl⟩
  | some ad =>
    have hrd := h.step (Step.refl.alloc (F := fun _ => False) (.cells #[] 56)) (fun _ _ => id)
    have hfr := own_fresh (w := w) (e := 56) (base := w.heap.size) 6 (Nat.le_refl _)
    have hm : 0 + n ≤ maxLen := by unfold maxLen; omega
    have hsz : w.heap.size ≤ (w.alloc (.cells #[] 56)).heap.size := by simp
    clear h
    go_enter Try.func45, Try.ntmps45
    go_wp2_with (at_builtin; refine wpList_append_src _ rfl _ _ (by rfl) E_vr (by rfl) hfr (by rfl) hrd h1 hm (by omega) hsz ?_; intro D3 c3 w3 hown hgrow hat)
    go_ret
    rw [Nat.zero_add, List.nil_append] at hown
    exact ⟨D3, c3, rfl, hown, grow_step (Step.refl.alloc _) hgrow hfr (Nat.le_refl _)⟩

set_option maxRecDepth 100000 in
set_option maxHeartbeats 3200000 in
theorem w_owners0 {w : World} {B : Nat} {s : Rc} (h : Ws w B s) (hn : s.nn ≤ 1000) :
    Calls Try.prog 23 #[.pointer (some ⟨s.S, 0, none⟩)] w fun e w' => ∃ (v : Value) (ss : List Int), e = .returned v ∧ ss.Perm (intKeys s.D) ∧ w'.ownsRow w.heap.size 3 1 v ss.length ((ss.mergeSort (fun x y => decide (x ≤ y))).map encZ) ∧ Step (fun _ => False) w w' := by
  refine (callsIn_wide (n := 6)).1 ?_
  have hown := h.mp.1
  have hbl := hown.lt
  have hsz : Maps.size s.D ≤ 1000 := Nat.le_trans hown.size_le hn
  have hseq : SeqGives Fence.wide 2 Try.prog 64 #[.pointer (some ⟨w.heap.size, 0, none⟩)] encZ (fun ss => ss.Perm (intKeys s.D)) (Maps.size s.D) (w.alloc (.cells #[.map (some s.K)] 76)) :=
    AnyZI.keys_gives (ρ := keysAR) { keysAL with } Fence.wide _ trivial rfl (by omega) w.heap.size s.K s.nn s.D _ (by simp) (by simp) (by
      obtain ⟨es, clock, hb, Ft, hs, hD⟩ := hown
      exact ⟨es, clock, (Below.heap_alloc _ _ s.K hbl).trans hb, Ft, hs, hD⟩)
  have cK : ∀ mb W, CallsIn Fence.wide 5 Try.prog 41 #[.map mb] W fun e w' => e = .returned (.func (.func 64) #[] #[.pointer (some ⟨W.heap.size, 0, none⟩)]) ∧ w' = W.alloc (.cells #[.map mb] 76) := fun mb W => AnyZI.keys_in keysAL Fence.wide 5 trivial rfl mb W
  have cS := AnyZI.sorted_in sortedAL Fence.wide 5 trivial trivial trivial trivial rfl (by omega) (sortsA _) (enters_of Try.func63 (by kernel_rfl) rfl) 64 #[.pointer (some ⟨w.heap.size, 0, none⟩)] trivial (enters_of Try.func64 (by kernel_rfl) rfl) _ _ (by unfold maxLen; omega) (by omega) _ hseq
  change CallsIn _ _ Try.prog 40 _ _ _ at cS
  have hfK : Fence.wide.fn 41 := trivial
  have hfS : Fence.wide.fn 40 := trivial
  have x4 := h.c4
  clear h hown hseq
  refine callsIn_of_wp Try.func23 rfl trivial ?_ rfl
  simp only [Try.ntmps23, List.size_toArray, List.length_cons, List.length_nil, Nat.reduceAdd, Nat.reduceSub, Array.replicate_succ, Array.replicate_zero, List.push_toArray, List.append_toArray, List.nil_append, List.cons_append]
  gi_wp2_with (first
    | (gi_at_call 41; refine (cK _ _).mono ?_; rintro e w' ⟨rfl, rfl⟩)
    | (gi_at_call 40; refine cS.mono ?_; rintro e w' ⟨v, ss, rfl, hS, hrow, hnil, hb⟩))
  go_ret
  exact ⟨v, ss, rfl, hS, ownsRow_base_a hrow (by simp), Step.ofBelow (((Below.refl _ w).alloc (Nat.le_refl _) _).trans (hb.mono (by simp)))⟩
theorem own_keys_w {w : World} {B : Nat} {s : Rc} (h : Ws w B s) {ow : List Int} (hr : Ris ow s.f) {ss : List Int} (hp : ss.Perm (intKeys s.D)) : ss.mergeSort (fun x y => decide (x ≤ y)) = ow := by
  have h1 : ow.Perm (intKeys s.D) := CollectedI.perm (left := fun _ => false) ⟨hr.nodup, fun x => by
    rw [hr.mem x]
    have := (h.mp.2 x).1
    unfold kI at this
    rw [this]
    simp⟩ h.mp.1 (Maps.int_keyed Try.underlying3) Try.underlying3 (fun _ => rfl)
  have h2 := mergeSort_of_perm_i (hp.trans h1.symm)
  have h3 : ow.mergeSort leI = ow := List.mergeSort_of_pairwise (hr.up.imp (fun hxy => by simp [leI]; omega))
  exact h2.trans h3
theorem w_owners {w : World} {B : Nat} {s : Rc} {ow : List Int} (h : Ws w B s) (hr : Ris ow s.f) (hn : s.nn ≤ 1000) :
    Calls Try.prog 23 #[.pointer (some ⟨s.S, 0, none⟩)] w fun e w' => ∃ D c, e = .returned (.slice D ow.length c) ∧ w'.ownsRow w.heap.size 3 1 (.slice D ow.length c) ow.length (i64s ow) ∧ Step (fun _ => False) w w' := by
  refine (w_owners0 h hn).mono ?_
  rintro e w' ⟨v, ss, rfl, hp, ho, hs⟩
  have e1 := own_keys_w h hr hp
  rw [e1] at ho
  have e2 : ss.length = ow.length := by rw [← e1, List.length_mergeSort]
  rw [e2] at ho
  have e3 : ow.map encZ = i64s ow := rfl
  rw [e3] at ho
  have e4 : ∃ D c, v = .slice D ow.length c := by
    rcases ho.2 with ⟨h0, hz⟩ | ⟨gb, cap, cur, h0, _⟩
    · exact ⟨none, 0, by rw [h0, hz]⟩
    · exact ⟨_, _, h0⟩
  obtain ⟨D, c, rfl⟩ := e4
  exact ⟨D, c, rfl, ho, hs⟩
/-- What one can see of a store: a shot of it in memory. -/
structure Sh where
  l : List UInt8
  A1 : Option Addr
  n1 : Nat
  c1 : Nat
  A2 : Option Addr
  n2 : Nat
  c2 : Nat
  A3 : Option Addr
  n3 : Nat
  c3 : Nat
  A4 : Option Addr
  n4 : Nat
  c4 : Nat
def Sh.cells (x : Sh) : List Value := [.string (str x.l), .slice x.A1 x.n1 x.c1, .slice x.A2 x.n2 x.c2, .slice x.A3 x.n3 x.c3, .slice x.A4 x.n4 x.c4]
theorem Sh.five (x : Sh) : x.cells.length = 5 := rfl
/-- Which function stands for each, -1: it is not there. -/
def shC (fs : List (Option (Array Value))) (cells : List Int) : List Int := (fs.zip cells).map fun x => if x.1.isSome = true then x.2 else -1
structure ShOk (w : World) (S : Nat → Prop) (x : Sh) (p : Ps) (ow : List Int) : Prop where
  l : x.l = p.l
  r1 : Reads w S 1 x.A1 x.n1 (i64s p.lt)
  e1 : x.n1 = p.lt.length
  r2 : Reads w S 6 x.A2 x.n2 (vrs p.vs)
  e2 : x.n2 = p.vs.length
  r3 : Reads w S 1 x.A3 x.n3 (i64s (shC p.fs p.cells))
  e3 : x.n3 = (shC p.fs p.cells).length
  r4 : Reads w S 1 x.A4 x.n4 (i64s ow)
  e4 : x.n4 = ow.length
theorem ShOk.step {w w' : World} {S F : Nat → Prop} {x : Sh} {p : Ps} {ow : List Int} (h : ShOk w S x p ow) (hs : Step F w w') (hd : ∀ k, S k → ¬ F k) : ShOk w' S x p ow :=
  ⟨h.l, h.r1.step hs hd, h.e1, h.r2.step hs hd, h.e2, h.r3.step hs hd, h.e3, h.r4.step hs hd, h.e4⟩
set_option maxRecDepth 100000 in
set_option maxHeartbeats 3200000 in
theorem s_same {w : World} {S S' : Nat → Prop} {x y : Sh} {p : Ps} {ow : List Int} (hx : ShOk w S x p ow) (hy : ShOk w S' y p ow) (h1 : x.n1 ≤ 1048576) (h2 : x.n2 ≤ 1048576) (h3 : x.n3 ≤ 1048576) (h4 : x.n4 ≤ 1048576) :
    Calls Try.prog 27 #[.agg #[.string (str x.l), .slice x.A1 x.n1 x.c1, .slice x.A2 x.n2 x.c2, .slice x.A3 x.n3 x.c3, .slice x.A4 x.n4 x.c4], .agg #[.string (str y.l), .slice y.A1 y.n1 y.c1, .slice y.A2 y.n2 y.c2, .slice y.A3 y.n3 y.c3, .slice y.A4 y.n4 y.c4]] w fun e w' => e = .returned (.bool true) ∧ Step (fun _ => False) w w' := by
  have el : y.l = x.l := by rw [hx.l, hy.l]
  have en1 : y.n1 = x.n1 := by rw [hx.e1, hy.e1]
  have en2 : y.n2 = x.n2 := by rw [hx.e2, hy.e2]
  have en3 : y.n3 = x.n3 := by rw [hx.e3, hy.e3]
  have en4 : y.n4 = x.n4 := by rw [hx.e4, hy.e4]
  rw [el, en1, en2, en3, en4]
  have HX := Lib.hid hx
  have HY := Lib.hid hy
  have K1 := Lib.hid (fun u (t : Step (fun _ => False) w u) => eq_ints u S S' x.A1 y.A1 x.n1 x.c1 y.c1 p.lt HX.out.e1 (HX.out.r1.step t (fun _ _ => id)) (by rw [← en1]; exact HY.out.r1.step t (fun _ _ => id)) h1)
  have K2 := Lib.hid (fun u (t : Step (fun _ => False) w u) => eq_vars u S S' x.A2 y.A2 x.n2 x.c2 y.c2 p.vs HX.out.e2 (HX.out.r2.step t (fun _ _ => id)) (by rw [← en2]; exact HY.out.r2.step t (fun _ _ => id)) h2)
  have K3 := Lib.hid (fun u (t : Step (fun _ => False) w u) => eq_ints u S S' x.A3 y.A3 x.n3 x.c3 y.c3 (shC p.fs p.cells) HX.out.e3 (HX.out.r3.step t (fun _ _ => id)) (by rw [← en3]; exact HY.out.r3.step t (fun _ _ => id)) h3)
  have K4 := Lib.hid (fun u (t : Step (fun _ => False) w u) => eq_ints u S S' x.A4 y.A4 x.n4 x.c4 y.c4 ow HX.out.e4 (HX.out.r4.step t (fun _ _ => id)) (by rw [← en4]; exact HY.out.r4.step t (fun _ _ => id)) h4)
  clear hx hy el en1 en2 en3 en4 h1 h2 h3 h4 HX HY
  generalize x.l = xl at *
  generalize x.A1 = a1 at *
  generalize x.A2 = a2 at *
  generalize x.A3 = a3 at *
  generalize x.A4 = a4 at *
  generalize y.A1 = b1 at *
  generalize y.A2 = b2 at *
  generalize y.A3 = b3 at *
  generalize y.A4 = b4 at *
  generalize x.n1 = n1 at *
  generalize x.n2 = n2 at *
  generalize x.n3 = n3 at *
  generalize x.n4 = n4 at *
  generalize x.c1 = c1 at *
  generalize x.c2 = c2 at *
  generalize x.c3 = c3 at *
  generalize x.c4 = c4 at *
  generalize y.c1 = d1 at *
  generalize y.c2 = d2 at *
  generalize y.c3 = d3 at *
  generalize y.c4 = d4 at *
  obtain ⟨V, hV⟩ : ∃ V, V = (w.alloc (.cells #[.string (str xl), .slice a1 n1 c1, .slice a2 n2 c2, .slice a3 n3 c3, .slice a4 n4 c4] 68)).alloc (.cells #[.string (str xl), .slice b1 n1 d1, .slice b2 n2 d2, .slice b3 n3 d3, .slice b4 n4 d4] 68) := ⟨_, rfl⟩
  have st : Step (fun _ => False) w V := by rw [hV]; exact (Step.refl.alloc _).alloc _
  have HX0 := Lib.hid ((Blk.new w 68 #[.string (str xl), .slice a1 n1 c1, .slice a2 n2 c2, .slice a3 n3 c3, .slice a4 n4 c4]).alloc (.cells #[.string (str xl), .slice b1 n1 d1, .slice b2 n2 d2, .slice b3 n3 d3, .slice b4 n4 d4] 68))
  have hx1 := Blk.new (w.alloc (.cells #[.string (str xl), .slice a1 n1 c1, .slice a2 n2 c2, .slice a3 n3 c3, .slice a4 n4 c4] 68)) 68 #[.string (str xl), .slice b1 n1 d1, .slice b2 n2 d2, .slice b3 n3 d3, .slice b4 n4 d4]
  have hz : (w.alloc (.cells #[.string (str xl), .slice a1 n1 c1, .slice a2 n2 c2, .slice a3 n3 c3, .slice a4 n4 c4] 68)).heap.size = w.heap.size + 1 := by simp
  rw [hz] at hx1
  rw [← hV] at HX0 hx1
  have HX1 := Lib.hid hx1
  obtain ⟨X, hX⟩ : ∃ X, X = w.heap.size := ⟨_, rfl⟩
  obtain ⟨Y, hY⟩ : ∃ Y, Y = w.heap.size + 1 := ⟨_, rfl⟩
  rw [← hX] at HX0
  rw [← hY] at HX1
  clear hz hx1
  go_enter Try.func27, Try.ntmps27
  go_upto_region 1 with fail
  rw [← hV, ← hY, ← hX]
  clear hV hX hY
  have x0 := HX0.out.cell 0
  have y0 := HX1.out.cell 0
  have x1 := HX0.out.cell 1
  have y1 := HX1.out.cell 1
  simp at x0 y0 x1 y1
  have T0 := Lib.hid st
  clear st
  go_wp2_with fail
  refine (K1.out _ T0.out).mono ?_
  rintro e w1 ⟨rfl, t1⟩
  have T1 := Lib.hid (T0.out.trans t1)
  replace HX0 := Lib.hid (HX0.out.step t1 id)
  replace HX1 := Lib.hid (HX1.out.step t1 id)
  have x2 := HX0.out.cell 2
  have y2 := HX1.out.cell 2
  simp at x2 y2
  clear t1 x0 y0 x1 y1 T0 K1
  go_wp2_with fail
  refine (K2.out _ T1.out).mono ?_
  rintro e w2 ⟨rfl, t2⟩
  have T2 := Lib.hid (T1.out.trans t2)
  replace HX0 := Lib.hid (HX0.out.step t2 id)
  replace HX1 := Lib.hid (HX1.out.step t2 id)
  have x3 := HX0.out.cell 3
  have y3 := HX1.out.cell 3
  simp at x3 y3
  clear t2 x2 y2 T1 K2
  go_wp2_with fail
  refine (K3.out _ T2.out).mono ?_
  rintro e w3 ⟨rfl, t3⟩
  have T3 := Lib.hid (T2.out.trans t3)
  replace HX0 := Lib.hid (HX0.out.step t3 id)
  replace HX1 := Lib.hid (HX1.out.step t3 id)
  have x4 := HX0.out.cell 4
  have y4 := HX1.out.cell 4
  simp at x4 y4
  clear t3 x3 y3 T2 K3
  go_wp2_with fail
  refine (K4.out _ T3.out).mono ?_
  rintro e w4 ⟨rfl, t4⟩
  have T4 := Lib.hid (T3.out.trans t4)
  clear t4
  go_wp2_with fail
  go_ret
  exact ⟨rfl, T4.out⟩
end Go.Proofs.Ytmheofkakcomdaa
