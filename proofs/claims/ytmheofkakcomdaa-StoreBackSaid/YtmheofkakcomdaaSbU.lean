/-
  store: each call of the law StoreBack, in all its ways.
-/
import Derived.Test.YtmheofkakcomdaaSbT
set_option linter.unusedVariables false
set_option linter.unusedSimpArgs false
namespace Go.Proofs.Ytmheofkakcomdaa
open Go.RowKit
section
variable {w0 w w' : World} {S0 : Nat} {r : Rc} {N : Nat} {Dm : Option Addr} {nm cm : Nat} {xs : List Sh} {sh : List (Ps × List Int) × List (Ps × List Int)}
/-- What each call leaves. -/
def Bo (w0 : World) (S0 N : Nat) (Dm : Option Addr) (nm cm : Nat) (xs : List Sh) (sh : List (Ps × List Int) × List (Ps × List Int)) (e : Ending) (w' : World) : Prop := (∃ v, e = .returned v) ∧ ∃ r', Bk w0 w' S0 r' (N + 1) Dm nm cm xs sh
theorem Bk.still (h : Bk w0 w S0 r N Dm nm cm xs sh) (hs : Step (fun _ => False) w w') {v : Value} {e : Ending} (he : e = .returned v) : Bo w0 S0 N Dm nm cm xs sh e w' := ⟨⟨v, he⟩, r, (h.quiet hs).mono (Nat.le_succ N)⟩
theorem Bk.hB (h : Bk w0 w S0 r N Dm nm cm xs sh) : w0.heap.size ≤ w.heap.size := h.st.size
theorem Bk.el (h : Bk w0 w S0 r N Dm nm cm xs sh) (hN : N ≤ 1000) : r.es.length ≤ 1000000 := by have := h.nn.2; omega
theorem b_write (h : Bk w0 w S0 r N Dm nm cm xs sh) (hN : N ≤ 1000) (a k kc : Nat) (A' : Option Addr) (S' : Nat → Prop) (d : List UInt8) (ha : a < 18446744073709551616) (hr : Reads w S' 1 A' k (u8s d)) (hS' : ∀ q, S' q → q < w0.heap.size) (hk : k = d.length) (hk2 : k ≤ 9223372036854775807) :
    Calls Try.prog 30 #[.pointer (some ⟨S0, 0, none⟩), .int .u64 (a : Int), .slice A' k kc] w fun e w' => Bo w0 S0 N Dm nm cm xs sh e w' := by
  have hS := h.S
  subst hS
  rcases Nat.lt_or_ge r.l.length (a + k) with h1 | h1
  · refine (w_write_err h.ws a k kc A' ha hk2 h1).mono ?_
    rintro e w' ⟨he, rfl⟩
    exact h.still Step.refl he
  · refine (w_write_ok h.ws a k kc A' S' d hr (fun q hq hf => by have := h.ws.gef q hf; have := hS' q hq; omega) hk h1 h.hB (h.el hN)).mono ?_
    rintro e w' ⟨he, ho⟩
    obtain ⟨ow, hg⟩ := h.good
    refine ⟨⟨_, he⟩, h.call ho rfl rfl (un_b r.ps a k d hk h1) ⟨ow, (good_l hg ?_).mono (Nat.le_succ N)⟩ (Nat.le_succ_of_le h.nn.1)⟩
    obtain ⟨n, h2, h3⟩ := hg.pages
    refine ⟨n, ?_, h3⟩
    have h2' : r.l.length = n * 65536 := h2
    simp only [List.length_append, List.length_take, List.length_drop]
    show min a r.l.length + d.length + (r.l.length - (a + k)) = _
    omega
theorem b_grow (h : Bk w0 w S0 r N Dm nm cm xs sh) (hN : N ≤ 1000) (k : Nat) (hk : k < 18446744073709551616) :
    Calls Try.prog 53 #[.pointer (some ⟨S0, 0, none⟩), .int .u64 (k : Int)] w fun e w' => Bo w0 S0 N Dm nm cm xs sh e w' := by
  have hS := h.S
  subst hS
  obtain ⟨ow, hg⟩ := h.good
  obtain ⟨n, h2, h3⟩ := hg.pages
  have h2' : r.l.length = n * 65536 := h2
  have hm := h.most.1
  rcases Nat.lt_or_ge 3 (n + k) with h1 | h1
  · refine (w_grow_no h.ws k n h2' (by rw [hm]; omega) (by rw [hm]; omega) (by rw [hm]; omega) hk).mono ?_
    rintro e w' ⟨he, hs⟩
    exact h.still hs he
  · refine (w_grow_ok h.ws h.hB (h.el hN) k n h2' (by rw [hm]; omega) (by rw [hm]; omega)).mono ?_
    rintro e w' ⟨he, ho⟩
    refine ⟨⟨_, he⟩, h.call ho rfl rfl (un_g r.ps n k h2') ⟨ow, (good_l hg ⟨n + k, ?_, h1⟩).mono (Nat.le_succ N)⟩ (Nat.le_succ_of_le h.nn.1)⟩
    rw [List.length_append, List.length_replicate, h2']
    omega
theorem b_set (h : Bk w0 w S0 r N Dm nm cm xs sh) (hN : N ≤ 1000) (i x : Int) (hx : (Lit.int .i64 x).wf = true) :
    Calls Try.prog 54 #[.pointer (some ⟨S0, 0, none⟩), .int .i64 i, .int .i64 x] w fun e w' => Bo w0 S0 N Dm nm cm xs sh e w' := by
  have hS := h.S
  subst hS
  obtain ⟨ow, hg⟩ := h.good
  by_cases h1 : i < 0 ∨ (r.lt.length : Int) ≤ i
  · refine (w_set_trap h.ws i x h1).mono ?_
    rintro e w' ⟨he, rfl⟩
    exact h.still Step.refl he
  · obtain ⟨k, rfl⟩ : ∃ k : Nat, i = k := ⟨i.toNat, by omega⟩
    have hk : k < r.lt.length := by omega
    have hy : r.lt[k]? = some r.lt[k] := List.getElem?_eq_getElem hk
    obtain ⟨g1, g2⟩ := hg.lt r.lt[k] (List.getElem_mem hk)
    by_cases h2 : x < -1
    · refine (w_set_arg h.ws k x _ hy h2).mono ?_
      rintro e w' ⟨he, rfl⟩
      exact h.still Step.refl he
    · refine (w_set_ok h.ws h.hB (h.el hN) k x _ hy (by omega)).mono ?_
      rintro e w' ⟨he, ho⟩
      refine ⟨⟨_, he⟩, h.call ho rfl rfl (un_s r.ps k x _ hy g1 g2) ⟨ow, (good_lt hg (fun y hy => ?_) ?_).mono (Nat.le_succ N)⟩ (Nat.le_succ_of_le h.nn.1)⟩
      · rcases List.mem_or_eq_of_mem_set hy with hy | rfl
        · exact hg.lt y hy
        · exact ⟨by omega, hx⟩
      · rw [List.length_set]; exact hg.ltl
theorem b_gt (h : Bk w0 w S0 r N Dm nm cm xs sh) (hN : N ≤ 1000) (k : Int) :
    Calls Try.prog 55 #[.pointer (some ⟨S0, 0, none⟩), .int .i64 k] w fun e w' => Bo w0 S0 N Dm nm cm xs sh e w' := by
  have hS := h.S
  subst hS
  obtain ⟨ow, hg⟩ := h.good
  by_cases h1 : k < 0 ∨ r.mt - (r.lt.length : Int) < k
  · refine (w_gt_no h.ws k h1).mono ?_
    rintro e w' ⟨he, hs⟩
    exact h.still hs he
  · obtain ⟨k, rfl⟩ : ∃ n : Nat, k = n := ⟨k.toNat, by omega⟩
    have hm := h.most.2
    refine (w_gt_ok h.ws h.hB (h.el hN) k (by omega)).mono ?_
    rintro e w' ⟨he, ho⟩
    have hl := h.ws.tb.len
    rw [hl] at ho
    refine ⟨⟨_, he⟩, h.call ho rfl rfl (un_t r.ps k) ⟨ow, (good_lt hg (fun y hy => ?_) ?_).mono (Nat.le_succ N)⟩ (Nat.le_succ_of_le h.nn.1)⟩
    · rcases List.mem_append.1 hy with hy | hy
      · exact hg.lt y hy
      · rw [List.eq_of_mem_replicate hy]
        exact ⟨by omega, by decide⟩
    · rw [List.length_append, List.length_replicate]
      omega
theorem b_addg (h : Bk w0 w S0 r N Dm nm cm xs sh) (hN : N ≤ 1000) (t vt n : Nat) (mu : Bool) (o : Int) (hv : vt < 256) :
    Calls Try.prog 9 #[.pointer (some ⟨S0, 0, none⟩), .agg #[.int .u8 (t : Int), .bool mu], .agg #[.int .u8 (vt : Int), .int .u64 (n : Int)], .int .i64 o] w fun e w' => Bo w0 S0 N Dm nm cm xs sh e w' := by
  have hS := h.S
  subst hS
  obtain ⟨ow, hg⟩ := h.good
  have hvl : r.vs.length ≤ N := hg.vl
  refine (w_addglobal t vt n mu o h.ws (by omega) h.hB (h.el hN)).mono ?_
  rintro e w' ⟨he, ho⟩
  refine ⟨⟨_, he⟩, h.call ho rfl rfl (un_w r.ps _) ⟨ow, good_vs (hg.mono (Nat.le_succ N)) (fun v hv2 => ?_) ?_⟩ (Nat.le_succ_of_le h.nn.1)⟩
  · rcases List.mem_append.1 hv2 with hv2 | hv2
    · exact hg.vt v hv2
    · rw [List.mem_singleton.1 hv2]; exact hv
  · rw [List.length_append]; simp; exact hvl
theorem b_setg (h : Bk w0 w S0 r N Dm nm cm xs sh) (hN : N ≤ 1000) (a : Int) (vt n : Nat) (hv : vt < 256) :
    Calls Try.prog 10 #[.pointer (some ⟨S0, 0, none⟩), .int .i64 a, .agg #[.int .u8 (vt : Int), .int .u64 (n : Int)]] w fun e w' => Bo w0 S0 N Dm nm cm xs sh e w' := by
  have hS := h.S
  subst hS
  obtain ⟨ow, hg⟩ := h.good
  have hvl : r.vs.length ≤ N := hg.vl
  by_cases hz : sgF r.vs a vt = 0
  · cases hq : gaF r.vs a with
    | none =>
      unfold sgF at hz
      rw [hq] at hz
      cases hz
    | some g =>
      obtain ⟨k, rfl, hk, hgv⟩ := gaF_at hq
      unfold sgF at hz
      rw [hq] at hz
      simp only at hz
      obtain ⟨t, mu, vt0, n0, o, lv⟩ := g
      simp only at hz
      split at hz
      · cases hz
      · rename_i hmu
        split at hz
        · rename_i htv
          have hmu : mu = true := by simpa using hmu
          subst hmu
          have hgb : vt0 < 256 := by
            have := hg.vt r.vs[k] (List.getElem_mem hk)
            rw [← hgv] at this
            exact this
          refine (w_setglobal_ok k vt n t vt0 n0 o lv h.ws h.hB (h.el hN) (by omega) hq htv hgb hk hgv).mono ?_
          rintro e w' ⟨he, ho⟩
          refine ⟨⟨_, he⟩, h.call ho rfl rfl (un_v r.ps k t vt0 n0 vt n o lv hk hgv.symm hgb) ⟨ow, (good_vs hg (fun v hv2 => ?_) ?_).mono (Nat.le_succ N)⟩ (Nat.le_succ_of_le h.nn.1)⟩
          · rcases List.mem_or_eq_of_mem_set hv2 with hv2 | rfl
            · exact hg.vt v hv2
            · exact hv
          · rw [List.length_set]; exact hvl
        · cases hz
  · refine (w_setglobal_no a vt n h.ws (by omega) hg.vt hz).mono ?_
    rintro e w' ⟨he, hs⟩
    exact h.still hs he
theorem b_addf (h : Bk w0 w S0 r N Dm nm cm xs sh) (hN : N ≤ 1000) (o : Int) :
    Calls Try.prog 56 #[.pointer (some ⟨S0, 0, none⟩), .agg #[.string ⟨#[]⟩, .string ⟨#[]⟩, .int .i64 o, .string ⟨#[]⟩, .slice none 0 0, .slice none 0 0, .slice none 0 0]] w fun e w' => Bo w0 S0 N Dm nm cm xs sh e w' := by
  have hS := h.S
  subst hS
  obtain ⟨ow, hg⟩ := h.good
  have hfl : r.vw.fs.length ≤ N := hg.fl
  have hlen : r.nf = r.vw.fs.length := by rw [h.ws.fn.lf]; show _ = (r.fs.map _).length; rw [List.length_map]
  refine (w_addfunc ⟨#[]⟩ ⟨#[]⟩ o ⟨#[]⟩ none 0 0 none 0 0 none 0 0 h.ws h.hB (h.el hN) (by omega)).mono ?_
  rintro e w' ⟨he, ho⟩
  rw [hlen] at ho
  exact ⟨⟨_, he⟩, h.call ho rfl rfl (un_f r.ps _ _ hg.cl) ⟨ow, good_fn hg _ ⟨rfl, rfl⟩⟩ (Nat.le_succ_of_le h.nn.1)⟩
theorem b_addi (h : Bk w0 w S0 r N Dm nm cm xs sh) (hN : N ≤ 1000) (i : Int) (hi : (Lit.int .i64 i).wf = true) (x y z : Option Addr × Nat × Nat) :
    Calls Try.prog 12 #[.pointer (some ⟨S0, 0, none⟩), .int .i64 i, .agg #[.slice x.1 x.2.1 x.2.2, .slice y.1 y.2.1 y.2.2, .slice z.1 z.2.1 z.2.2]] w fun e w' => Bo w0 S0 N Dm nm cm xs sh e w' := by
  have hS := h.S
  subst hS
  obtain ⟨ow, hg⟩ := h.good
  cases hq : r.f i with
  | none =>
    refine (w_addinst_ok i hi x y z h.ws h.hB (h.el hN) (by have := h.nn.1; omega) hq).mono ?_
    rintro e w' ⟨he, ho⟩
    exact ⟨⟨_, he⟩, h.call ho rfl rfl (un_i r.ps i _ hi hq) ⟨_, good_f hg i x y z hq⟩ (Nat.succ_le_succ h.nn.1)⟩
  | some v =>
    refine (w_addinst_twice i hi x y z h.ws hg.ok (by rw [hq]; rfl)).mono ?_
    rintro e w' ⟨he, hs⟩
    exact h.still hs he
theorem b_swap (h : Bk w0 w S0 r N Dm nm cm xs sh) (hN : N ≤ 1000) (a t : Int) :
    Calls Try.prog 57 #[.pointer (some ⟨S0, 0, none⟩), .int .i64 a, .int .i64 t] w fun e w' => Bo w0 S0 N Dm nm cm xs sh e w' := by
  have hS := h.S
  subst hS
  obtain ⟨ow, hg⟩ := h.good
  cases hq : swE r.fs a t with
  | false =>
    refine (w_swap_dead h.ws a t hq).mono ?_
    rintro e w' ⟨he, rfl⟩
    exact h.still Step.refl he
  | true =>
    rw [swE, Bool.and_eq_true] at hq
    obtain ⟨k, f, rfl, hk, hf⟩ := lv_some hq.1
    obtain ⟨q, g, rfl, hq', hg2⟩ := lv_some hq.2
    have hkl : k < r.ps.fs.length := by show k < (r.fs.map _).length; rw [List.length_map]; exact hk
    have hql : q < r.ps.fs.length := by show q < (r.fs.map _).length; rw [List.length_map]; exact hq'
    have tk := hg.fs k hkl
    have tq := hg.fs q hql
    obtain ⟨f', e1, e2⟩ := ty_of tk
    obtain ⟨g', e3, e4⟩ := ty_of tq
    have hkc : k < r.cells.length := by have := hg.cl; have : r.cells.length = r.ps.fs.length := this; omega
    obtain ⟨t0, e5, e6⟩ := hg.cells r.cells[k] (List.getElem_mem hkc)
    have hx : r.cells[k]? = some (t0 : Int) := by rw [List.getElem?_eq_getElem hkc, e5]
    refine (w_swap_ok h.ws h.hB (h.el hN) k q f' g' emp emp (t0 : Int) e1 e3 e2 e4 hx).mono ?_
    rintro e w' ⟨he, ho⟩
    exact ⟨⟨_, he⟩, h.call ho rfl rfl (un_c r.ps k q t0 emp emp tk (hg.fs t0 e6) hx (by have := hg.fl; omega)) ⟨ow, (good_c hg k q hql).mono (Nat.le_succ N)⟩ (Nat.le_succ_of_le h.nn.1)⟩
end
end Go.Proofs.Ytmheofkakcomdaa
