/-
  store: the law's do, in all its ways.
-/
import Derived.Test.YtmheofkakcomdaaSbU
import Derived.Test.YtmheofkakcomdaaGsO
set_option linter.unusedVariables false
set_option linter.unusedSimpArgs false
namespace Go.Proofs.Ytmheofkakcomdaa
open Go.RowKit
theorem u64_nat (a : Int) : ∃ n : Nat, IntKind.u64.wrap a = (n : Int) ∧ n < 18446744073709551616 := by
  refine ⟨(IntKind.u64.wrap a).toNat, ?_, ?_⟩
  · rw [Go.IntKind.wrap_u64]; omega
  · rw [Go.IntKind.wrap_u64]; omega
theorem og_bytes {w : World} {o : Og} (h : OgIn w o) : ∃ d : List UInt8, d.length = o.dn ∧ Reads w (fun k => k < w.heap.size) 1 o.A o.dn (u8s d) := by
  obtain ⟨xs, h1, h2, h3⟩ := h.data
  refine ⟨xs.map UInt8.ofNat, by rw [List.length_map, h1], ?_⟩
  have e : u8s (xs.map UInt8.ofNat) = xs.map fun x : Nat => Value.int .u8 (x : Int) := by
    clear h1 h2
    induction xs with
    | nil => rfl
    | cons x xs ih =>
      have hx := h3 x List.mem_cons_self
      have e1 : (UInt8.ofNat x).toNat = x := by rw [UInt8.toNat_ofNat']; omega
      have ih := ih (fun y hy => h3 y (List.mem_cons_of_mem _ hy))
      simp only [u8s, List.map_cons] at ih ⊢
      rw [ih, e1]
  rw [e]
  exact h2
section
variable {w0 w : World} {S0 : Nat} {r : Rc} {N : Nat} {Dm : Option Addr} {nm cm : Nat} {xs : List Sh} {sh : List (Ps × List Int) × List (Ps × List Int)}
set_option maxRecDepth 100000 in
set_option maxHeartbeats 6400000 in
theorem do_walk (h : Bk w0 w S0 r N Dm nm cm xs sh) (hN : N ≤ 1000) (o : Og) (ho : OgIn w0 o) :
    Calls Try.prog 29 #[.pointer (some ⟨S0, 0, none⟩), .agg #[.int .i64 o.k, .int .i64 o.a, .int .i64 o.b, .int .u8 (o.t : Int), .bool o.mu, .int .u8 (o.vt : Int), .int .u64 (o.n : Int), .slice o.A o.dn o.dc]] w fun e w' => e = .returned (.tuple #[]) ∧ ∃ r', Bk w0 w' S0 r' (N + 1) Dm nm cm xs sh := by
  obtain ⟨d, hd, hrd⟩ := og_bytes ho
  have HD1 := Lib.hid hd
  have HRD := Lib.hid hrd
  have HO := Lib.hid ho
  obtain ⟨k, a, b, t, mu, vt, nn, Da, dn, dc⟩ := o
  simp only at *
  obtain ⟨V, hV⟩ : ∃ V, V = w.alloc (.cells #[.int .i64 k, .int .i64 a, .int .i64 b, .int .u8 (t : Int), .bool mu, .int .u8 (vt : Int), .int .u64 (nn : Int), .slice Da dn dc] 41) := ⟨_, rfl⟩
  have st : Step (fun _ => False) w V := by rw [hV]; exact Step.refl.alloc _
  have HX := Lib.hid (Blk.new w 41 #[.int .i64 k, .int .i64 a, .int .i64 b, .int .u8 (t : Int), .bool mu, .int .u8 (vt : Int), .int .u64 (nn : Int), .slice Da dn dc])
  rw [← hV] at HX
  have H := Lib.hid (h.quiet st)
  obtain ⟨X, hX⟩ : ∃ X, X = w.heap.size := ⟨_, rfl⟩
  rw [← hX] at HX
  have x0 := HX.out.cell 0
  have x1 := HX.out.cell 1
  have x2 := HX.out.cell 2
  have x3 := HX.out.cell 3
  have x4 := HX.out.cell 4
  have x5 := HX.out.cell 5
  have x6 := HX.out.cell 6
  have x7 := HX.out.cell 7
  simp at x0 x1 x2 x3 x4 x5 x6 x7
  have nX := HX.out.lt
  clear st hd hrd ho h
  go_enter Try.func29, Try.ntmps29
  go_upto_region 1 with fail
  rw [← hV, ← hX]
  clear hV hX
  by_cases h0 : k = 0
  · have e0 : (k == 0) = true := beq_iff_eq.2 h0
    replace h0 := Lib.hid h0
    obtain ⟨au, wa, hau⟩ := u64_nat a
    have HC := Lib.hid (b_write H.out hN au dn dc Da (fun k => k < w0.heap.size) d hau (HRD.out.step H.out.st (fun _ _ => id)) (fun _ hq => hq) HD1.out.symm (by have := HO.out.dl; unfold maxLen at this; simp only at this; omega))
    go_wp2_with fail
    refine HC.out.mono ?_
    rintro e w4 ⟨⟨v, rfl⟩, hr⟩
    have HR := Lib.hid hr
    clear hr HC x0 x1 x2 x3 x4 x5 x6 x7
    go_wp2_with fail
    go_end0
    exact ⟨rfl, HR.out⟩
  by_cases h1 : k = 1
  · have e0 : (k == 0) = false := beq_eq_false_iff_ne.2 h0
    have e1 : (k == 1) = true := beq_iff_eq.2 h1
    replace h0 := Lib.hid h0
    replace h1 := Lib.hid h1
    obtain ⟨au, wa, hau⟩ := u64_nat a
    have HC := Lib.hid (b_grow H.out hN au hau)
    go_wp2_with fail
    refine HC.out.mono ?_
    rintro e w4 ⟨⟨v, rfl⟩, hr⟩
    have HR := Lib.hid hr
    clear hr HC x0 x1 x2 x3 x4 x5 x6 x7
    go_wp2_with fail
    go_end0
    exact ⟨rfl, HR.out⟩
  by_cases h2 : k = 2
  · have e0 : (k == 0) = false := beq_eq_false_iff_ne.2 h0
    have e1 : (k == 1) = false := beq_eq_false_iff_ne.2 h1
    have e2 : (k == 2) = true := beq_iff_eq.2 h2
    replace h0 := Lib.hid h0
    replace h1 := Lib.hid h1
    replace h2 := Lib.hid h2
    have HC := Lib.hid (b_set H.out hN a b HO.out.b)
    go_wp2_with fail
    refine HC.out.mono ?_
    rintro e w4 ⟨⟨v, rfl⟩, hr⟩
    have HR := Lib.hid hr
    clear hr HC x0 x1 x2 x3 x4 x5 x6 x7
    go_wp2_with fail
    go_end0
    exact ⟨rfl, HR.out⟩
  by_cases h3 : k = 3
  · have e0 : (k == 0) = false := beq_eq_false_iff_ne.2 h0
    have e1 : (k == 1) = false := beq_eq_false_iff_ne.2 h1
    have e2 : (k == 2) = false := beq_eq_false_iff_ne.2 h2
    have e3 : (k == 3) = true := beq_iff_eq.2 h3
    replace h0 := Lib.hid h0
    replace h1 := Lib.hid h1
    replace h2 := Lib.hid h2
    replace h3 := Lib.hid h3
    have HC := Lib.hid (b_gt H.out hN a)
    go_wp2_with fail
    refine HC.out.mono ?_
    rintro e w4 ⟨⟨v, rfl⟩, hr⟩
    have HR := Lib.hid hr
    clear hr HC x0 x1 x2 x3 x4 x5 x6 x7
    go_wp2_with fail
    go_end0
    exact ⟨rfl, HR.out⟩
  by_cases h4 : k = 4
  · have e0 : (k == 0) = false := beq_eq_false_iff_ne.2 h0
    have e1 : (k == 1) = false := beq_eq_false_iff_ne.2 h1
    have e2 : (k == 2) = false := beq_eq_false_iff_ne.2 h2
    have e3 : (k == 3) = false := beq_eq_false_iff_ne.2 h3
    have e4 : (k == 4) = true := beq_iff_eq.2 h4
    replace h0 := Lib.hid h0
    replace h1 := Lib.hid h1
    replace h2 := Lib.hid h2
    replace h3 := Lib.hid h3
    replace h4 := Lib.hid h4
    have HC := Lib.hid (b_addg H.out hN t vt nn mu b HO.out.vt)
    go_wp2_with fail
    refine HC.out.mono ?_
    rintro e w4 ⟨⟨v, rfl⟩, hr⟩
    have HR := Lib.hid hr
    clear hr HC x0 x1 x2 x3 x4 x5 x6 x7
    go_wp2_with fail
    go_end0
    exact ⟨rfl, HR.out⟩
  by_cases h5 : k = 5
  · have e0 : (k == 0) = false := beq_eq_false_iff_ne.2 h0
    have e1 : (k == 1) = false := beq_eq_false_iff_ne.2 h1
    have e2 : (k == 2) = false := beq_eq_false_iff_ne.2 h2
    have e3 : (k == 3) = false := beq_eq_false_iff_ne.2 h3
    have e4 : (k == 4) = false := beq_eq_false_iff_ne.2 h4
    have e5 : (k == 5) = true := beq_iff_eq.2 h5
    replace h0 := Lib.hid h0
    replace h1 := Lib.hid h1
    replace h2 := Lib.hid h2
    replace h3 := Lib.hid h3
    replace h4 := Lib.hid h4
    replace h5 := Lib.hid h5
    have HC := Lib.hid (b_setg H.out hN a vt nn HO.out.vt)
    go_wp2_with fail
    refine HC.out.mono ?_
    rintro e w4 ⟨⟨v, rfl⟩, hr⟩
    have HR := Lib.hid hr
    clear hr HC x0 x1 x2 x3 x4 x5 x6 x7
    go_wp2_with fail
    go_end0
    exact ⟨rfl, HR.out⟩
  by_cases h6 : k = 6
  · have e0 : (k == 0) = false := beq_eq_false_iff_ne.2 h0
    have e1 : (k == 1) = false := beq_eq_false_iff_ne.2 h1
    have e2 : (k == 2) = false := beq_eq_false_iff_ne.2 h2
    have e3 : (k == 3) = false := beq_eq_false_iff_ne.2 h3
    have e4 : (k == 4) = false := beq_eq_false_iff_ne.2 h4
    have e5 : (k == 5) = false := beq_eq_false_iff_ne.2 h5
    have e6 : (k == 6) = true := beq_iff_eq.2 h6
    replace h0 := Lib.hid h0
    replace h1 := Lib.hid h1
    replace h2 := Lib.hid h2
    replace h3 := Lib.hid h3
    replace h4 := Lib.hid h4
    replace h5 := Lib.hid h5
    replace h6 := Lib.hid h6
    have HC := Lib.hid (b_addf H.out hN b)
    go_wp2_with fail
    refine HC.out.mono ?_
    rintro e w4 ⟨⟨v, rfl⟩, hr⟩
    have HR := Lib.hid hr
    clear hr HC x0 x1 x2 x3 x4 x5 x6 x7
    go_wp2_with fail
    go_end0
    exact ⟨rfl, HR.out⟩
  by_cases h7 : k = 7
  · have e0 : (k == 0) = false := beq_eq_false_iff_ne.2 h0
    have e1 : (k == 1) = false := beq_eq_false_iff_ne.2 h1
    have e2 : (k == 2) = false := beq_eq_false_iff_ne.2 h2
    have e3 : (k == 3) = false := beq_eq_false_iff_ne.2 h3
    have e4 : (k == 4) = false := beq_eq_false_iff_ne.2 h4
    have e5 : (k == 5) = false := beq_eq_false_iff_ne.2 h5
    have e6 : (k == 6) = false := beq_eq_false_iff_ne.2 h6
    have e7 : (k == 7) = true := beq_iff_eq.2 h7
    replace h0 := Lib.hid h0
    replace h1 := Lib.hid h1
    replace h2 := Lib.hid h2
    replace h3 := Lib.hid h3
    replace h4 := Lib.hid h4
    replace h5 := Lib.hid h5
    replace h6 := Lib.hid h6
    replace h7 := Lib.hid h7
    have HC := Lib.hid (b_addi (H.out.quiet (Step.refl.alloc (.cells #[.int .i64 a] 3))) hN b HO.out.b (none, 0, 0) (some ⟨V.heap.size, 0, none⟩, 1, 1) (none, 0, 0))
    go_wp2_with fail
    refine HC.out.mono ?_
    rintro e w4 ⟨⟨v, rfl⟩, hr⟩
    have HR := Lib.hid hr
    clear hr HC x0 x1 x2 x3 x4 x5 x6 x7
    go_wp2_with fail
    go_end0
    exact ⟨rfl, HR.out⟩
  by_cases h8 : k = 8
  · have e0 : (k == 0) = false := beq_eq_false_iff_ne.2 h0
    have e1 : (k == 1) = false := beq_eq_false_iff_ne.2 h1
    have e2 : (k == 2) = false := beq_eq_false_iff_ne.2 h2
    have e3 : (k == 3) = false := beq_eq_false_iff_ne.2 h3
    have e4 : (k == 4) = false := beq_eq_false_iff_ne.2 h4
    have e5 : (k == 5) = false := beq_eq_false_iff_ne.2 h5
    have e6 : (k == 6) = false := beq_eq_false_iff_ne.2 h6
    have e7 : (k == 7) = false := beq_eq_false_iff_ne.2 h7
    have e8 : (k == 8) = true := beq_iff_eq.2 h8
    replace h0 := Lib.hid h0
    replace h1 := Lib.hid h1
    replace h2 := Lib.hid h2
    replace h3 := Lib.hid h3
    replace h4 := Lib.hid h4
    replace h5 := Lib.hid h5
    replace h6 := Lib.hid h6
    replace h7 := Lib.hid h7
    replace h8 := Lib.hid h8
    have HC := Lib.hid (b_swap H.out hN a b)
    go_wp2_with fail
    refine HC.out.mono ?_
    rintro e w4 ⟨⟨v, rfl⟩, hr⟩
    have HR := Lib.hid hr
    clear hr HC x0 x1 x2 x3 x4 x5 x6 x7
    go_wp2_with fail
    go_end0
    exact ⟨rfl, HR.out⟩
  have e0 : (k == 0) = false := beq_eq_false_iff_ne.2 h0
  have e1 : (k == 1) = false := beq_eq_false_iff_ne.2 h1
  have e2 : (k == 2) = false := beq_eq_false_iff_ne.2 h2
  have e3 : (k == 3) = false := beq_eq_false_iff_ne.2 h3
  have e4 : (k == 4) = false := beq_eq_false_iff_ne.2 h4
  have e5 : (k == 5) = false := beq_eq_false_iff_ne.2 h5
  have e6 : (k == 6) = false := beq_eq_false_iff_ne.2 h6
  have e7 : (k == 7) = false := beq_eq_false_iff_ne.2 h7
  have e8 : (k == 8) = false := beq_eq_false_iff_ne.2 h8
  replace h0 := Lib.hid h0
  replace h1 := Lib.hid h1
  replace h2 := Lib.hid h2
  replace h3 := Lib.hid h3
  replace h4 := Lib.hid h4
  replace h5 := Lib.hid h5
  replace h6 := Lib.hid h6
  replace h7 := Lib.hid h7
  replace h8 := Lib.hid h8
  go_wp2_with fail
  go_end0
  exact ⟨rfl, r, H.out.mono (Nat.le_succ N)⟩
end
end Go.Proofs.Ytmheofkakcomdaa
