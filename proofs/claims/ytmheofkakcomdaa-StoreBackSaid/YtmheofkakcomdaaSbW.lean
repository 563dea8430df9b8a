/-
  store: Begin, Keep, Back and Shot on the law's way.
-/
import Derived.Test.YtmheofkakcomdaaSbV
set_option linter.unusedVariables false
set_option linter.unusedSimpArgs false
namespace Go.Proofs.Ytmheofkakcomdaa
open Go.RowKit
section
variable {w0 w w' : World} {S0 : Nat} {r : Rc} {N : Nat} {Dm : Option Addr} {nm cm : Nat} {xs : List Sh} {sx sh : List (Ps × List Int)}
theorem E_sh : ElemTy Try.prog 65 68 5 112 := elem_of Try.underlying65 (z := .agg #[.string ⟨#[]⟩, .slice none 0 0, .slice none 0 0, .slice none 0 0, .slice none 0 0]) (by kernel_rfl) rfl (by decide)
theorem Bk.msl (h : Bk w0 w S0 r N Dm nm cm xs (sx, sh)) : r.ms.length = sh.length := h.ch.len.symm
theorem bk_begin (h : Bk w0 w S0 r N Dm nm cm xs (sx, sh)) (hN : N ≤ 1000) (hm : sh.length ≤ 1000) :
    Calls Try.prog 24 #[.pointer (some ⟨S0, 0, none⟩)] w fun e w' => e = .returned (.tuple #[]) ∧ ∃ r' ow, Bk w0 w' S0 r' N Dm nm cm xs (sx, sh ++ [(r'.ps, ow)]) ∧ Good N r'.ps ow := by
  have hS := h.S
  subst hS
  obtain ⟨ow, hg⟩ := h.good
  have hml : r.nm ≤ 1000000 := by rw [h.ws.jn.lm, h.msl]; omega
  refine (w_begin h.ws h.hB (by rw [h.ws.jl]; exact h.el hN) hml).mono ?_
  rintro e w' ⟨he, r', h1, h2, h3, h4⟩
  have e1 : r'.es = r.es := congrArg Vw.es h4
  have e2 : r'.ms = r.ms ++ [(r.es.length : Int)] := congrArg Vw.ms h4
  have e3 : r'.ps = r.ps := (congrArg Vw.ps h4).trans rfl
  have e4 : r'.nn = r.nn := congrArg Vw.nn h4
  obtain ⟨b1, b2, b3⟩ := h.beside h2
  refine ⟨he, r', ow, ⟨h1, congrArg Ct.S h3, ⟨(congrArg Ct.most h3).trans h.most.1, (congrArg Ct.mt h3).trans h.most.2⟩, ⟨ow, by rw [e3]; exact hg⟩, ⟨by rw [e4]; exact h.nn.1, by rw [e1]; exact h.nn.2⟩, ?_, h.ml, b1, h.xl, b2, b3⟩, by rw [e3]; exact hg⟩
  show Ch N r'.ps r'.es r'.ms (sh ++ [(r'.ps, ow)])
  rw [e3, e1, e2]
  exact h.ch.begin_ hg
theorem bk_keep_err (h : Bk w0 w S0 r N Dm nm cm xs (sx, sh)) (hs : sh = []) : Calls Try.prog 28 #[.pointer (some ⟨S0, 0, none⟩)] w fun e w' => e = .returned (.int .i64 1) ∧ w' = w := by
  have hS := h.S
  subst hS
  exact w_keep_err h.ws (List.eq_nil_of_length_eq_zero (by rw [h.msl, hs]; rfl))
theorem ne_of_len {l : List Int} {m : List (Ps × List Int)} (h : l.length = m.length) (hm : 0 < m.length) : l ≠ [] := fun e => by rw [e] at h; simp at h; omega
theorem bk_keep_ok (h : Bk w0 w S0 r N Dm nm cm xs (sx, sh)) (hs : 0 < sh.length) (hm : sh.length ≤ 1000) : Calls Try.prog 28 #[.pointer (some ⟨S0, 0, none⟩)] w fun e w' => e = .returned (.int .i64 0) ∧ ∃ r' sh' y, sh = sh' ++ [y] ∧ Bk w0 w' S0 r' N Dm nm cm xs (sx, sh') := by
  have hS := h.S
  subst hS
  obtain ⟨ms', sh', a, q, ow, e1, e2, ha, hu, hg, hc⟩ := h.ch.last (ne_of_len h.msl hs)
  have e2 : sh = sh' ++ [(q, ow)] := e2
  refine (w_keep_ok h.ws e1 (by have := h.msl; rw [e1, List.length_append] at this; simp at this; omega)).mono ?_
  rintro e w' ⟨he, r', h1, h2, h3, h4⟩
  have f1 : r'.es = kes ms' r.es := congrArg Vw.es h4
  have f2 : r'.ms = ms' := congrArg Vw.ms h4
  have f3 : r'.ps = r.ps := (congrArg Vw.ps h4).trans rfl
  have f4 : r'.nn = r.nn := congrArg Vw.nn h4
  obtain ⟨b1, b2, b3⟩ := h.beside h2
  refine ⟨he, r', sh', (q, ow), e2, ⟨h1, congrArg Ct.S h3, ⟨(congrArg Ct.most h3).trans h.most.1, (congrArg Ct.mt h3).trans h.most.2⟩, by rw [f3]; exact h.good, ⟨by rw [f4]; exact h.nn.1, ?_⟩, ?_, h.ml, b1, h.xl, b2, b3⟩⟩
  · rw [f1, kes]
    split
    · exact Nat.zero_le _
    · exact h.nn.2
  · show Ch N r'.ps r'.es r'.ms sh'
    rw [f3, f1, f2]
    exact Ch.keep ha hu hc
theorem bk_back_err (h : Bk w0 w S0 r N Dm nm cm xs (sx, sh)) (hs : sh = []) : Calls Try.prog 26 #[.pointer (some ⟨S0, 0, none⟩)] w fun e w' => e = .returned (.int .i64 1) ∧ Step (fun _ => False) w w' := by
  have hS := h.S
  subst hS
  exact w_back_err h.ws (List.eq_nil_of_length_eq_zero (by rw [h.msl, hs]; rfl))
theorem bk_back_ok (h : Bk w0 w S0 r N Dm nm cm xs (sx, sh)) (hN : N ≤ 1000) (hs : 0 < sh.length) (hm : sh.length ≤ 1000) : Calls Try.prog 26 #[.pointer (some ⟨S0, 0, none⟩)] w fun e w' => e = .returned (.int .i64 0) ∧ ∃ r' sh' ow, sh = sh' ++ [(r'.ps, ow)] ∧ Good N r'.ps ow ∧ Bk w0 w' S0 r' N Dm nm cm xs (sx, sh') ∧ Step r.foot w w' := by
  have hS := h.S
  subst hS
  obtain ⟨ow0, hg0⟩ := h.good
  obtain ⟨ms', sh', a, q, ow, e1, e2, ha, hu, hg, hc⟩ := h.ch.last (ne_of_len h.msl hs)
  have e2 : sh = sh' ++ [(q, ow)] := e2
  refine (w_back_ok h.ws h.hB (h.el hN) e1 (by have := h.msl; rw [e1, List.length_append] at this; simp at this; omega) ha (by have : r.vs.length ≤ N := hg0.vl; omega) hu).mono ?_
  rintro e w' ⟨he, r', h1, h2, h3, h4⟩
  have f1 : r'.es = r.es.take a := congrArg Vw.es h4
  have f2 : r'.ms = ms' := congrArg Vw.ms h4
  have f3 : r'.ps = q := congrArg Vw.ps h4
  have f4 : r'.nn = r.nn := congrArg Vw.nn h4
  obtain ⟨b1, b2, b3⟩ := h.beside h2
  refine ⟨he, r', sh', ow, by rw [f3]; exact e2, by rw [f3]; exact hg, ⟨h1, congrArg Ct.S h3, ⟨(congrArg Ct.most h3).trans h.most.1, (congrArg Ct.mt h3).trans h.most.2⟩, ⟨ow, by rw [f3]; exact hg⟩, ⟨by rw [f4]; exact h.nn.1, ?_⟩, ?_, h.ml, b1, h.xl, b2, b3⟩, h2.1⟩
  · rw [f1, List.length_take]
    have := h.nn.2
    omega
  · show Ch N r'.ps r'.es r'.ms sh'
    rw [f3, f1, f2]
    exact hc
theorem bk_shot {ow : List Int} (h : Bk w0 w S0 r N Dm nm cm xs (sx, sh)) (hN : N ≤ 1000) (hg : Good N r.ps ow) :
    Calls Try.prog 25 #[.pointer (some ⟨S0, 0, none⟩)] w fun e w' => ∃ x : Sh, e = .returned (.agg #[.string (str x.l), .slice x.A1 x.n1 x.c1, .slice x.A2 x.n2 x.c2, .slice x.A3 x.n3 x.c3, .slice x.A4 x.n4 x.c4]) ∧ ShOk w' (fun k => w.heap.size ≤ k ∧ k < w'.heap.size) x r.ps ow ∧ Step (fun _ => False) w w' := by
  have hS := h.S
  subst hS
  have hv : r.nv ≤ 1000 := by rw [h.ws.vl]; have : r.vs.length ≤ N := hg.vl; omega
  have hf : r.nf ≤ 1000 := by
    rw [h.ws.fn.lf]
    have h1 := hg.fl
    have h2 : r.ps.fs.length = r.fs.length := by show (r.fs.map _).length = _; rw [List.length_map]
    omega
  refine (w_shot h.ws hg.ris (by have := h.nn.1; omega) hv hf (Nat.le_trans hg.owl hN)).mono ?_
  rintro e w' ⟨x, he, hx, hs⟩
  exact ⟨x, he, hx, hs⟩
end
end Go.Proofs.Ytmheofkakcomdaa
