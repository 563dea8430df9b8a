/-
  store: the law StoreBack's state: what was, as a chain of marks; what holds ahead of each call.
-/
import Derived.Test.YtmheofkakcomdaaSbQ
import Derived.Test.YtmheofkakcomdaaSbR
import Derived.Test.YtmheofkakcomdaaGsK
set_option linter.unusedVariables false
set_option linter.unusedSimpArgs false
namespace Go.Proofs.Ytmheofkakcomdaa
open Go.RowKit
theorem uns_append {p q r : Ps} {es fs : List En} (h : Uns p es q) (h2 : Uns q fs r) : Uns p (es ++ fs) r := by
  induction h with
  | nil p => exact h2
  | cons hu _ ih => exact .cons hu (ih h2)
def emp : ByteArray := ⟨#[]⟩
/-- A state that may be, with its owners. -/
structure Good (N : Nat) (p : Ps) (ow : List Int) : Prop where
  ris : Ris ow p.f
  owl : ow.length ≤ N
  ok : OkI p.f
  pages : ∃ n, p.l.length = n * 65536 ∧ n ≤ 3
  lt : ∀ x ∈ p.lt, -1 ≤ x ∧ (Lit.int .i64 x).wf = true
  ltl : p.lt.length ≤ 12
  vt : ∀ v ∈ p.vs, v.vt < 256
  vl : p.vs.length ≤ N
  fs : ∀ k, k < p.fs.length → tyAt p.fs k emp emp
  fl : p.fs.length ≤ N
  cl : p.cells.length = p.fs.length
  cells : ∀ x ∈ p.cells, ∃ t : Nat, x = (t : Int) ∧ t < p.fs.length
theorem Good.mono {N M : Nat} {p : Ps} {ow : List Int} (h : Good N p ow) (hm : N ≤ M) : Good M p ow :=
  ⟨h.ris, Nat.le_trans h.owl hm, h.ok, h.pages, h.lt, h.ltl, h.vt, Nat.le_trans h.vl hm, h.fs, Nat.le_trans h.fl hm, h.cl, h.cells⟩
/-- The marks: what each goes back to. -/
inductive Ch (N : Nat) : Ps → List En → List Int → List (Ps × List Int) → Prop
  | nil (p : Ps) (es : List En) : Ch N p es [] []
  | snoc {p q : Ps} {es : List En} {ms : List Int} {sh : List (Ps × List Int)} {a : Nat} {ow : List Int} (ha : a ≤ es.length) (hu : Uns p (es.drop a).reverse q) (hg : Good N q ow) (hc : Ch N q (es.take a) ms sh) : Ch N p es (ms ++ [(a : Int)]) (sh ++ [(q, ow)])
theorem Ch.mono {N M : Nat} {p : Ps} {es : List En} {ms : List Int} {sh : List (Ps × List Int)} (h : Ch N p es ms sh) (hm : N ≤ M) : Ch M p es ms sh := by
  induction h with
  | nil p es => exact .nil p es
  | snoc ha hu hg _ ih => exact .snoc ha hu (hg.mono hm) ih
theorem Ch.len {N : Nat} {p : Ps} {es : List En} {ms : List Int} {sh : List (Ps × List Int)} (h : Ch N p es ms sh) : sh.length = ms.length := by
  induction h with
  | nil p es => rfl
  | snoc _ _ _ _ ih => rw [List.length_append, List.length_append, ih]; rfl
theorem Ch.call {N : Nat} {p p' : Ps} {es : List En} {ms : List Int} {sh : List (Ps × List Int)} {e : En} (h : Ch N p es ms sh) (hu : Un p' e p) : Ch N p' (jes ms es e) ms sh := by
  cases h with
  | nil => exact .nil _ _
  | @snoc _ q _ ms sh a ow ha hu2 hg hc =>
    have e1 : jes (ms ++ [(a : Int)]) es e = es ++ [e] := if_neg (by simp)
    rw [e1]
    refine .snoc (by simp; omega) ?_ hg ?_
    · rw [List.drop_append_of_le_length ha, List.reverse_append]
      exact .cons hu hu2
    · rw [List.take_append_of_le_length ha]
      exact hc
theorem Ch.begin_ {N : Nat} {p : Ps} {es : List En} {ms : List Int} {sh : List (Ps × List Int)} {ow : List Int} (h : Ch N p es ms sh) (hg : Good N p ow) : Ch N p es (ms ++ [(es.length : Int)]) (sh ++ [(p, ow)]) :=
  .snoc (Nat.le_refl _) (by rw [List.drop_length]; exact .nil p) hg (by rw [List.take_length]; exact h)
theorem snoc_inj {α : Type} {l m : List α} {x y : α} (h : l ++ [x] = m ++ [y]) : l = m ∧ x = y := by
  have h1 := congrArg List.reverse h
  simp at h1
  exact ⟨h1.2, h1.1⟩
theorem Ch.last {N : Nat} {p : Ps} {es : List En} {ms : List Int} {sh : List (Ps × List Int)} (h : Ch N p es ms sh) (hne : ms ≠ []) :
    ∃ ms' sh' a q ow, ms = ms' ++ [((a : Nat) : Int)] ∧ sh = sh' ++ [(q, ow)] ∧ a ≤ es.length ∧ Uns p (es.drop a).reverse q ∧ Good N q ow ∧ Ch N q (es.take a) ms' sh' := by
  cases h with
  | nil => exact absurd rfl hne
  | snoc ha hu hg hc => exact ⟨_, _, _, _, _, rfl, rfl, ha, hu, hg, hc⟩
theorem Ch.keep {N : Nat} {p q : Ps} {es : List En} {ms : List Int} {sh : List (Ps × List Int)} {a : Nat} (ha : a ≤ es.length) (hu : Uns p (es.drop a).reverse q) (hc : Ch N q (es.take a) ms sh) : Ch N p (kes ms es) ms sh := by
  cases hc with
  | nil => exact .nil _ _
  | @snoc _ q2 _ ms sh b ow hb hu2 hg hc =>
    have e1 : kes (ms ++ [(b : Int)]) es = es := if_neg (by simp)
    rw [e1]
    rw [List.length_take] at hb
    refine .snoc (by omega) ?_ hg ?_
    · have e2 : es.drop b = (es.take a).drop b ++ es.drop a := by
        have : es.drop b = ((es.take a) ++ es.drop a).drop b := by rw [List.take_append_drop]
        rw [this, List.drop_append_of_le_length (by rw [List.length_take]; omega)]
      rw [e2, List.reverse_append]
      exact uns_append hu hu2
    · rw [List.take_take, Nat.min_eq_left (by omega)] at hc
      exact hc
def shs (l : List Sh) : List Value := l.flatMap Sh.cells
/-- What holds ahead of each call: sh.1 what the shots tell, sh.2 what the marks go back to. -/
structure Bk (w0 w : World) (S0 : Nat) (r : Rc) (N : Nat) (Dm : Option Addr) (nm cm : Nat) (xs : List Sh) (sh : List (Ps × List Int) × List (Ps × List Int)) : Prop where
  ws : Ws w w0.heap.size r
  S : r.S = S0
  most : r.most = 3 ∧ r.mt = 12
  good : ∃ ow, Good N r.ps ow
  nn : r.nn ≤ N ∧ r.es.length ≤ N
  ch : Ch N r.ps r.es r.ms sh.2
  ml : nm = sh.1.length ∧ nm ≤ 5 ∧ nm ≤ cm
  rd : Reads w (fun k => k < w.heap.size ∧ ¬ r.foot k) 5 Dm nm (shs xs)
  xl : xs.length = nm
  each : ∀ (i : Nat) (x : Sh) (y : Ps × List Int), xs[i]? = some x → sh.1[i]? = some y → ShOk w (fun k => k < w.heap.size ∧ ¬ r.foot k) x y.1 y.2
  st : Step (fun _ => False) w0 w
section
variable {w0 w w' : World} {S0 : Nat} {r : Rc} {N : Nat} {Dm : Option Addr} {nm cm : Nat} {xs : List Sh} {sh : List (Ps × List Int) × List (Ps × List Int)}
theorem ShOk.mono {S S' : Nat → Prop} {x : Sh} {p : Ps} {ow : List Int} (h : ShOk w S x p ow) (hd : ∀ k, k < w.heap.size → S k → S' k) : ShOk w S' x p ow :=
  ⟨h.l, h.r1.mono hd, h.e1, h.r2.mono hd, h.e2, h.r3.mono hd, h.e3, h.r4.mono hd, h.e4⟩
theorem Bk.mono (h : Bk w0 w S0 r N Dm nm cm xs sh) {M : Nat} (hm : N ≤ M) : Bk w0 w S0 r M Dm nm cm xs sh := by
  obtain ⟨ow, hg⟩ := h.good
  exact ⟨h.ws, h.S, h.most, ⟨ow, hg.mono hm⟩, ⟨Nat.le_trans h.nn.1 hm, Nat.le_trans h.nn.2 hm⟩, h.ch.mono hm, h.ml, h.rd, h.xl, h.each, h.st⟩
theorem Bk.quiet (h : Bk w0 w S0 r N Dm nm cm xs sh) (hs : Step (fun _ => False) w w') : Bk w0 w' S0 r N Dm nm cm xs sh :=
  ⟨h.ws.quiet hs, h.S, h.most, h.good, h.nn, h.ch, h.ml, (h.rd.step hs (fun _ _ => id)).mono (fun _ _ hk => ⟨Nat.lt_of_lt_of_le hk.1 hs.size, hk.2⟩), h.xl, fun i x y h1 h2 => ((h.each i x y h1 h2).step hs (fun _ _ => id)).mono (fun _ _ hk => ⟨Nat.lt_of_lt_of_le hk.1 hs.size, hk.2⟩), h.st.trans hs⟩
/-- The store turned: what lies beside stays. -/
theorem Bk.beside (h : Bk w0 w S0 r N Dm nm cm xs sh) {r' : Rc} (hu : Upd w r.foot r'.foot w') :
    Reads w' (fun k => k < w'.heap.size ∧ ¬ r'.foot k) 5 Dm nm (shs xs) ∧ (∀ (i : Nat) (x : Sh) (y : Ps × List Int), xs[i]? = some x → sh.1[i]? = some y → ShOk w' (fun k => k < w'.heap.size ∧ ¬ r'.foot k) x y.1 y.2) ∧ Step (fun _ => False) w0 w' := by
  have hk : ∀ k, k < w'.heap.size → (k < w.heap.size ∧ ¬ r.foot k) → (k < w'.heap.size ∧ ¬ r'.foot k) := fun k _ h1 => ⟨Nat.lt_of_lt_of_le h1.1 hu.1.size, fun h2 => by
    rcases hu.2 k h2 with h3 | h3
    · exact h1.2 h3
    · have := h1.1; omega⟩
  exact ⟨(h.rd.step hu.1 (fun _ hk => hk.2)).mono hk, fun i x y h1 h2 => ((h.each i x y h1 h2).step hu.1 (fun _ hk => hk.2)).mono hk, h.st.trans' hu.1 (fun i hi => .inr (h.ws.gef i hi))⟩
/-- A call that was noted. -/
theorem Bk.call (h : Bk w0 w S0 r N Dm nm cm xs sh) {v : Vw} {e : En} (ho : Out w w0.heap.size r v w') (hes : v.es = jes r.ms r.es e) (hms : v.ms = r.ms) (hu : Un v.ps e r.ps) (hg : ∃ ow, Good (N + 1) v.ps ow) (hn : v.nn ≤ N + 1) : ∃ r', Bk w0 w' S0 r' (N + 1) Dm nm cm xs sh := by
  obtain ⟨r', h1, h2, h3, h4⟩ := ho
  have e1 : r'.es = v.es := congrArg Vw.es h4
  have e2 : r'.ms = v.ms := congrArg Vw.ms h4
  have e3 : r'.ps = v.ps := congrArg Vw.ps h4
  have e4 : r'.nn = v.nn := congrArg Vw.nn h4
  obtain ⟨b1, b2, b3⟩ := h.beside h2
  refine ⟨r', h1, (congrArg Ct.S h3).trans h.S, ⟨(congrArg Ct.most h3).trans h.most.1, (congrArg Ct.mt h3).trans h.most.2⟩, by rw [e3]; exact hg, ⟨by rw [e4]; exact hn, ?_⟩, ?_, h.ml, b1, h.xl, b2, b3⟩
  · rw [e1, hes]
    have := h.nn.2
    unfold jes
    split
    · omega
    · rw [List.length_append]
      simp
      omega
  · rw [e3, e1, e2, hes, hms]
    exact (h.ch.mono (Nat.le_succ N)).call hu
end
end Go.Proofs.Ytmheofkakcomdaa
