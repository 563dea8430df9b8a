/-
  creellaw47: CraftStays, walked.
-/
import Derived.Test.YtflgpjdpofmbkaaCsX
import Derived.Test.YtflgpjdpofmbkaaCsY
import Derived.Deep.DeepCutAuto
import Derived.Deep.CutBlock
set_option linter.unusedVariables false
set_option linter.unusedSimpArgs false
namespace Go.Proofs.Ytflgpjdpofmbkaa
open Go.RowKit
def Lt (X Z g7 g8 : Nat) (a : Ad) : Nat → Prop := fun k => ¬ ftA X a k ∧ k ≠ Z ∧ k ≠ g7 ∧ k ≠ g8
/-- The law's state: a maker, the document's module (its block holds MM), the two that were told. -/
structure Lw (W0 W : World) (X Z g7 g8 : Nat) (a : Ad) (s : Mo) (tk vr : Int) (am : Ad) (m : Mo) (aw an : Ad) (sw sn : Mo) (MM : Array Value) : Prop where
  st : St (Lt X Z g7 g8 a) W W0.heap.size X a s tk vr am m
  zb : Blk W Z 41 MM
  wb : Blk W g7 41 (mdC aw sw)
  nb : Blk W g8 41 (mdC an sn)
  al : Alike sw sn
  rw_ : Rf W (Lt X Z g7 g8 a) aw sw
  rn : Rf W (Lt X Z g7 g8 a) an sn
  iw : Inn W (Lt X Z g7 g8 a) sw
  in_ : Inn W (Lt X Z g7 g8 a) sn
  zf : ¬ ftA X a Z
  wf : ¬ ftA X a g7
  nf : ¬ ftA X a g8
  d1 : Z ≠ g7
  d2 : Z ≠ g8
  d3 : g7 ≠ g8
  e1 : W0.heap.size ≤ Z
  e2 : W0.heap.size ≤ g7
  e3 : W0.heap.size ≤ g8
  s0 : Step (fun k => W0.heap.size ≤ k) W0 W
  sm : sw.small 900
section
variable {W0 W W1 : World} {X Z g7 g8 : Nat} {a a' am am' aw an a2 : Ad} {s s' m m' sw sn : Mo} {tk vr tk' vr' : Int} {MM M' : Array Value}
theorem St.mono {T T' : Nat → Prop} {B : Nat} (h : St T W B X a s tk vr am m) (hT : ∀ k, k < W.heap.size → T k → T' k) (hs : ∀ k, T' k → ¬ ftA X a k) : St T' W B X a s tk vr am m :=
  ⟨h.mkr, hs, h.inn.mono hT, h.rf.mono hT, h.inm.mono hT, h.al⟩
theorem St.step {T F : Nat → Prop} {B : Nat} (h : St T W B X a s tk vr am m) (hs : Step F W W1) (hF : ∀ k, T k → ¬ F k) (ha : Apart (ftA X a) F) : St T W1 B X a s tk vr am m :=
  ⟨h.mkr.step hs ha, h.sep, h.inn.step hs hF, h.rf.step hs hF, h.inm.step hs hF, h.al⟩
theorem Lw.quiet (h : Lw W0 W X Z g7 g8 a s tk vr am m aw an sw sn MM) (hs : Step (fun _ => False) W W1) : Lw W0 W1 X Z g7 g8 a s tk vr am m aw an sw sn MM :=
  ⟨h.st.step hs (fun _ _ => id) apart_none, h.zb.step hs id, h.wb.step hs id, h.nb.step hs id, h.al, h.rw_.step hs (fun _ _ => id), h.rn.step hs (fun _ _ => id), h.iw.step hs (fun _ _ => id), h.in_.step hs (fun _ _ => id), h.zf, h.wf, h.nf, h.d1, h.d2, h.d3, h.e1, h.e2, h.e3,
    h.s0.trans (hs.mono (fun _ _ h => h.elim)), h.sm⟩
theorem Lw.setZ (h : Lw W0 W X Z g7 g8 a s tk vr am m aw an sw sn MM) : Lw W0 (W.setRow Z M') X Z g7 g8 a s tk vr am m aw an sw sn M' := by
  have hs : Step (fun k => k = Z) W (W.setRow Z M') := Step.setRow (F := fun k => k = Z) Step.refl (.inl rfl) _
  have hT : ∀ k, Lt X Z g7 g8 a k → ¬ k = Z := fun k hk => hk.2.1
  exact ⟨h.st.step hs hT (fun k hk e => by subst e; exact h.zf hk), h.zb.row _, h.wb.step hs h.d1.symm, h.nb.step hs h.d2.symm, h.al, h.rw_.step hs hT, h.rn.step hs hT, h.iw.step hs hT, h.in_.step hs hT, h.zf, h.wf, h.nf, h.d1, h.d2, h.d3, h.e1, h.e2, h.e3,
    h.s0.trans (hs.mono (fun k _ e => by subst e; exact h.e1)), h.sm⟩
/-- Behind a call at both. -/
theorem Lw.call (h : Lw W0 W X Z g7 g8 a s tk vr am m aw an sw sn MM) (hd : St (New (Lt X Z g7 g8 a) W X a') W1 W0.heap.size X a' s' tk' vr' am' m') (hu : Upd W (ftA X a) (ftA X a') W1) : Lw W0 W1 X Z g7 g8 a' s' tk' vr' am' m' aw an sw sn MM := by
  have hlz := h.zb.lt
  have hlw := h.wb.lt
  have hln := h.nb.lt
  have hold : ∀ k, k < W.heap.size → ¬ ftA X a k → ¬ ftA X a' k := fun k hk hn e => by
    rcases hu.2 k e with h1 | h1
    · exact hn h1
    · omega
  have hN : ∀ k, New (Lt X Z g7 g8 a) W X a' k → Lt X Z g7 g8 a' k := fun k hk => by
    rcases hk with h1 | h1
    · exact ⟨hold k h1.2 h1.1.1, h1.1.2⟩
    · exact ⟨h1.2, by omega, by omega, by omega⟩
  have hR : ∀ k, (Lt X Z g7 g8 a k ∧ k < W.heap.size) → Lt X Z g7 g8 a' k := fun k hk => ⟨hold k hk.2 hk.1.1, hk.1.2⟩
  have hF : ∀ k, (Lt X Z g7 g8 a k ∧ k < W.heap.size) → ¬ ftA X a k := fun k hk => hk.1.1
  exact ⟨hd.mono (fun k _ hk => hN k hk) (fun k hk => hk.1), h.zb.step hu.1 h.zf, h.wb.step hu.1 h.wf, h.nb.step hu.1 h.nf, h.al,
    ((h.rw_.mono (S' := fun k => Lt X Z g7 g8 a k ∧ k < W.heap.size) (fun k hk hh => ⟨hh, hk⟩)).step hu.1 hF).mono (fun k _ => hR k),
    ((h.rn.mono (S' := fun k => Lt X Z g7 g8 a k ∧ k < W.heap.size) (fun k hk hh => ⟨hh, hk⟩)).step hu.1 hF).mono (fun k _ => hR k),
    ((h.iw.mono (S' := fun k => Lt X Z g7 g8 a k ∧ k < W.heap.size) (fun k hk hh => ⟨hh, hk⟩)).step hu.1 hF).mono (fun k _ => hR k),
    ((h.in_.mono (S' := fun k => Lt X Z g7 g8 a k ∧ k < W.heap.size) (fun k hk hh => ⟨hh, hk⟩)).step hu.1 hF).mono (fun k _ => hR k),
    hold Z hlz h.zf, hold g7 hlw h.wf, hold g8 hln h.nf, h.d1, h.d2, h.d3, h.e1, h.e2, h.e3, h.s0.trans (hu.1.mono (fun k _ hk => h.st.mkr.gef k hk)), h.sm⟩
/-- The maker's module, told: the two are what it and the document's are now. -/
theorem Lw.snap0 {o7 o8 : Array Value} (hst0 : St (Lt X Z g7 g8 a) W W0.heap.size X a s tk vr am m) (zb : Blk W Z 41 (mdC am m)) (wb : Blk W g7 41 o7) (nb : Blk W g8 41 o8)
    (zf : ¬ ftA X a Z) (wf : ¬ ftA X a g7) (nf : ¬ ftA X a g8) (d1 : Z ≠ g7) (d2 : Z ≠ g8) (d3 : g7 ≠ g8) (e1 : W0.heap.size ≤ Z) (e2 : W0.heap.size ≤ g7) (e3 : W0.heap.size ≤ g8) (s0 : Step (fun k => W0.heap.size ≤ k) W0 W)
    (hr : Rf W (Lt X Z g7 g8 a) a2 s) (hsm : s.small 900) :
    Lw W0 ((W.setRow g7 (mdC a2 s)).setRow g8 (mdC am m)) X Z g7 g8 a s tk vr am m a2 am s m (mdC am m) := by
  have h1 : Step (fun k => k = g7 ∨ k = g8) W (W.setRow g7 (mdC a2 s)) := Step.setRow (F := fun k => k = g7 ∨ k = g8) Step.refl (.inl (.inl rfl)) _
  have hs : Step (fun k => k = g7 ∨ k = g8) W ((W.setRow g7 (mdC a2 s)).setRow g8 (mdC am m)) := Step.setRow (F := fun k => k = g7 ∨ k = g8) h1 (.inl (.inr rfl)) _
  have h2 : Step (fun k => k = g8) (W.setRow g7 (mdC a2 s)) ((W.setRow g7 (mdC a2 s)).setRow g8 (mdC am m)) := Step.setRow (F := fun k => k = g8) Step.refl (.inl rfl) _
  have h3 : Step (fun k => k = g7) W (W.setRow g7 (mdC a2 s)) := Step.setRow (F := fun k => k = g7) Step.refl (.inl rfl) _
  have hT : ∀ k, Lt X Z g7 g8 a k → ¬ (k = g7 ∨ k = g8) := fun k hk e => by rcases e with e | e; exact hk.2.2.1 e; exact hk.2.2.2 e
  have hA : Apart (ftA X a) (fun k => k = g7 ∨ k = g8) := fun k hk e => by
    rcases e with e | e
    · subst e; exact wf hk
    · subst e; exact nf hk
  have hst := hst0.step hs hT hA
  exact ⟨hst, zb.step hs (fun e => by rcases e with e | e; exact d1 e; exact d2 e), (wb.row _).step h2 d3, (nb.step h3 (fun e => d3 e.symm)).row _, hst0.al, hr.step hs hT, hst.rf, hst.inn, hst.inm, zf, wf, nf, d1, d2, d3, e1, e2, e3,
    s0.trans (hs.mono (fun k _ e => by rcases e with e | e; (subst e; exact e2); (subst e; exact e3))), hsm⟩
theorem Lw.snap (h : Lw W0 W X Z g7 g8 a s tk vr am m aw an sw sn (mdC am m)) (hr : Rf W (Lt X Z g7 g8 a) a2 s) (hsm : s.small 900) :
    Lw W0 ((W.setRow g7 (mdC a2 s)).setRow g8 (mdC am m)) X Z g7 g8 a s tk vr am m a2 am s m (mdC am m) :=
  Lw.snap0 h.st h.zb h.wb h.nb h.zf h.wf h.nf h.d1 h.d2 h.d3 h.e1 h.e2 h.e3 h.s0 hr hsm
theorem inn_new {S : Nat → Prop} : Inn W S new0 := ⟨(fun e he => by cases he), (fun e he => by cases he), (fun e he => by cases he), (fun e he => by cases he), (fun e he => by cases he)⟩
theorem Lw.init {U w5 : World} {gk gm : Nat} {o7 o8 : Array Value} (hm : Mk w5 W0.heap.size X (ad0 gk) new0 0 0) (hs5 : Step (fun _ => False) W0 w5) (hZ : Z < w5.heap.size) (hZ0 : W0.heap.size ≤ Z) (hzf : ¬ ftA X (ad0 gk) Z)
    (hzb : Blk w5 Z 41 (mdC (ad0 gm) new0)) (hrf : Rf w5 (fun k => ¬ ftA X (ad0 gk) k ∧ k ≠ Z) (ad0 gm) new0) (hs : Step (fun _ => False) w5 U) (H7 : Blk U g7 41 o7) (H8 : Blk U g8 41 o8) (h7 : w5.heap.size ≤ g7) (h8 : w5.heap.size ≤ g8) (hne : g7 ≠ g8)
    (hr : Rf U (fun k => w5.heap.size ≤ k ∧ k ≠ g7 ∧ k ≠ g8) a2 new0) :
    Lw W0 ((U.setRow g7 (mdC a2 new0)).setRow g8 (mdC (ad0 gm) new0)) X Z g7 g8 (ad0 gk) new0 0 0 (ad0 gm) new0 a2 (ad0 gm) new0 new0 (mdC (ad0 gm) new0) := by
  have hin : ∀ k, ftA X (ad0 gk) k → k < w5.heap.size := hm.in_
  have h05 := hs5.size
  have hrf' := (hrf.mono (S' := fun k => Lt X Z g7 g8 (ad0 gk) k) (fun k hk hh => ⟨hh.1, hh.2, by omega, by omega⟩)).step hs (fun _ _ => id)
  refine Lw.snap0 ⟨hm.quiet hs, fun k hk => hk.1, inn_new, hrf', inn_new, Alike.refl _⟩ (hzb.step hs id) H7 H8 hzf (fun e => by have := hin _ e; omega) (fun e => by have := hin _ e; omega) (by omega) (by omega) hne hZ0 (by omega) (by omega) ((hs5.trans hs).mono (fun _ _ h => h.elim)) ?_ ?_
  · exact hr.mono fun k _ hk => ⟨fun e => by have := hin k e; omega, by omega, hk.2.1, hk.2.2⟩
  · exact ⟨by decide, by decide, by decide, by decide, by decide, by decide, by decide, by decide, by decide⟩
theorem Lw.call2 {Ua Ub Uc : World} {g : Nat} (h : Lw W0 W X Z g7 g8 a s tk vr am m aw an sw sn MM) (h1 : Step (fun _ => False) W Ua) (hd : St (New (Old (Lt X Z g7 g8 a) W) Ua X a') Ub W0.heap.size X a' s' tk' vr' am' m') (hu : Upd Ua (ftA X a) (ftA X a') Ub)
    (h3 : Step (fun k => k = g) Ub Uc) (hg : W.heap.size ≤ g) (hg2 : g < Ua.heap.size ∨ Ub.heap.size ≤ g) : Lw W0 Uc X Z g7 g8 a' s' tk' vr' am' m' aw an sw sn MM := by
  have hin : ∀ k, ftA X a k → k < W.heap.size := h.st.mkr.in_
  have hin' : ∀ k, ftA X a' k → k < Ub.heap.size := hd.mkr.in_
  have hsz := h1.size
  have hA : Apart (ftA X a') (fun k => k = g) := fun k hk e => by
    subst e
    have h5 := hin' k hk
    rcases hu.2 k hk with h4 | h4
    · have := hin k h4; omega
    · omega
  have hd2 := hd.mono (T' := fun k => New (Old (Lt X Z g7 g8 a) W) Ua X a' k ∧ k < Ub.heap.size) (fun k hk hh => ⟨hh, hk⟩) (fun k hk => hd.sep k hk.1)
  have hd3 := hd2.step h3 (fun k hk e => by
    subst e
    have h5 := hk.2
    rcases hk.1 with h4 | h4
    · have := h4.1.2; omega
    · omega) hA
  refine h.call (hd3.mono (fun k _ hk => ?_) (fun k hk => ?_)) ((Upd.after h1 hu).write h3 (fun k e => by subst e; exact hg))
  · rcases hk.1 with h4 | h4
    · exact .inl h4.1
    · exact .inr ⟨by omega, h4.2⟩
  · intro e
    rcases hk with h4 | h4
    · rcases hu.2 k e with h5 | h5
      · exact h4.1.1 h5
      · have := h4.2; omega
    · exact h4.2 e
theorem Opx.raw.ok {o : Opx} {w : World} {S : Nat → Prop} (h : o.raw w S) (hf : o.fit) : o.ok w S := ⟨h.n, h.n2, h.vt, by have := hf.2.1; omega, by have := hf.2.2.1; omega, h.bo, h.ins, fun g hg => by have := hf.2.2.2.2.2 g hg; omega⟩
theorem Opx.raw.step {o : Opx} {w w' : World} {S F : Nat → Prop} (h : o.raw w S) (hs : Step F w w') (hd : ∀ k, S k → ¬ F k) : o.raw w' S := ⟨h.n, h.n2, h.vt, h.bo.step hs hd, fun g hg => ⟨(h.ins g hg).1, (h.ins g hg).2.step hs hd⟩⟩
end

set_option maxRecDepth 100000 in
set_option maxHeartbeats 25600000 in
theorem stays_walk (w : World) (A : Option Addr) (n c p : Nat) (hp : p < 256) (l : List Opx) (HN : Hid (n = l.length)) (hr : Reads w (fun k => k < w.heap.size) 11 A n (l.flatMap Opx.cl)) (ho : ∀ o ∈ l, Opx.raw o w (fun k => k < w.heap.size)) :
    Calls Try.prog 3 #[.slice A n c, .int .u8 (p : Int)] w fun e w' => e = .returned (.bool true) ∧ Below w.heap.size w w' := by
  have HR := Lib.hid hr
  have HO := Lib.hid ho
  have HAw := Lib.hid (awake47 w)
  clear hr ho
  go_enter Try.func3, Try.ntmps3
  go_wp2_with fail
  refine HAw.out.mono ?_
  rintro e w1 ⟨rfl, hs1⟩
  have HS1 := Lib.hid hs1
  have HFw := Lib.hid (few_ok w1 A n c l _ HN (HR.out.step hs1 (fun _ _ => id)) (fun o ho => (HO.out o ho).bo.step hs1 (fun _ _ => id)))
  clear hs1
  go_wp2_with fail
  refine HFw.out.mono ?_
  rintro e w2 ⟨b, rfl, hfit, hs2⟩
  cases b
  · go_wp2_with fail
    go_ret
    exact ⟨rfl, (HS1.out.trans hs2).below _ (fun k _ h => h.elim) (Nat.le_refl _)⟩
  obtain ⟨hn25, hfit⟩ := hfit rfl
  have HFit := Lib.hid hfit
  have HS2 := Lib.hid (HS1.out.trans hs2)
  have HK := Lib.hid (knew_ok w2 w.heap.size HS2.out.size)
  clear hfit hs2
  go_wp2_with fail
  refine HK.out.mono ?_
  rintro e w3 ⟨X, gk, rfl, hmk, hs3, hX⟩
  have HMk := Lib.hid hmk
  have HS3 := Lib.hid (HS2.out.trans hs3)
  have hR := rnew_ok w3
  have HRn := Lib.hid hR
  clear hmk hs3 hX hR
  go_wp2_with fail
  refine HRn.out.mono ?_
  rintro e w4 ⟨gm, rfl, hrf, hs4⟩
  obtain ⟨MM, hMM⟩ : ∃ MM, MM = mdC (ad0 gm) new0 := ⟨_, rfl⟩
  rw [← hMM]
  have HMM := Lib.hid hMM
  have HM17 : Hid (MM.size = 17) := by rw [Hid, hMM]; rfl
  have HM1 : Hid (MM.all (·.oneCell') = true) := by rw [Hid, hMM]; exact mdC_one _ _
  have HMk4 := Lib.hid (HMk.out.quiet hs4)
  have HS4 := Lib.hid (HS3.out.trans hs4)
  have HS34 := Lib.hid hs4
  have HZ0 : Hid (Blk (w4.alloc (.cells #[.slice none 0 0, .slice none 0 0, .slice none 0 0, .slice none 0 0, .slice none 0 0, .slice none 0 0, .slice none 0 0, .int .i64 0, .slice none 0 0, .slice none 0 0, .slice none 0 0, .bool false, .int .u32 0, .int .u32 0, .int .u32 0, .int .u32 0, .slice none 0 0] 41)) w4.heap.size 41 #[.slice none 0 0, .slice none 0 0, .slice none 0 0, .slice none 0 0, .slice none 0 0, .slice none 0 0, .slice none 0 0, .int .i64 0, .slice none 0 0, .slice none 0 0, .slice none 0 0, .bool false, .int .u32 0, .int .u32 0, .int .u32 0, .int .u32 0, .slice none 0 0]) := Blk.new w4 _ _
  obtain ⟨w5, hw5⟩ : ∃ w5, w5 = (w4.alloc (.cells #[.slice none 0 0, .slice none 0 0, .slice none 0 0, .slice none 0 0, .slice none 0 0, .slice none 0 0, .slice none 0 0, .int .i64 0, .slice none 0 0, .slice none 0 0, .slice none 0 0, .bool false, .int .u32 0, .int .u32 0, .int .u32 0, .int .u32 0, .slice none 0 0] 41)).setRow w4.heap.size MM := ⟨_, rfl⟩
  have hsA : Step (fun _ => False) w4 (w4.alloc (.cells #[.slice none 0 0, .slice none 0 0, .slice none 0 0, .slice none 0 0, .slice none 0 0, .slice none 0 0, .slice none 0 0, .int .i64 0, .slice none 0 0, .slice none 0 0, .slice none 0 0, .bool false, .int .u32 0, .int .u32 0, .int .u32 0, .int .u32 0, .slice none 0 0] 41)) := Step.alloc Step.refl _
  have h45 : Step (fun _ => False) w4 w5 := by rw [hw5]; exact hsA.setRow (.inr (Nat.le_refl _)) _
  have HS5 : Hid (Step (fun _ => False) w w5) := HS4.out.trans h45
  have hmlt : ∀ k, ftA X (ad0 gk) k → k < w3.heap.size := HMk.out.in_
  have h34 : w3.heap.size ≤ w4.heap.size := by have := HS34.out.size; exact this
  have hzf : ¬ ftA X (ad0 gk) w4.heap.size := fun e => by have := hmlt _ e; omega
  have HMk5 := Lib.hid (HMk4.out.quiet h45)
  have HZ5 : Hid (Blk w5 w4.heap.size 41 (mdC (ad0 gm) new0)) := by rw [Hid, hw5, hMM]; exact HZ0.out.row _
  have hZlt : w4.heap.size < w5.heap.size := HZ5.out.lt
  have hZge : w.heap.size ≤ w4.heap.size := HS4.out.size
  have HRf5 : Hid (Rf w5 (fun k => ¬ ftA X (ad0 gk) k ∧ k ≠ w4.heap.size) (ad0 gm) new0) := ((hrf.mono (S' := fun k => w3.heap.size ≤ k ∧ k < w4.heap.size) (fun k hk hh => ⟨hh, hk⟩)).step h45 (fun _ _ => id)).mono fun k _ hk => ⟨fun e => by have := hmlt k e; omega, by omega⟩
  have HMo : Hid (∀ U, Step (fun _ => False) w5 U → _) := fun U hU => module_ok U w.heap.size X (ad0 gk) new0 0 0 (HMk5.out.quiet hU) ⟨by decide, by decide, by decide, by decide, by decide, by decide, by decide, by decide, by decide⟩
  have HW5 := Lib.hid hw5
  clear hMM hrf hs4 hw5 hsA h45 hmlt h34
  go_wp2_with (refine st_mod rfl _ _ rfl rfl w4.heap.size rfl MM rfl HZ0.out rfl HM17.out HM1.out ?_)
  rw [← HW5.out]
  go_cut [7, 8] (fun s7 s8 wq => ∃ (g7 g8 : Nat) (a2 : Ad), s7 = .pointer (some ⟨g7, 0, none⟩) ∧ s8 = .pointer (some ⟨g8, 0, none⟩) ∧ Hid (Lw w wq X w4.heap.size g7 g8 (ad0 gk) new0 0 0 (ad0 gm) new0 a2 (ad0 gm) new0 new0 MM))
  case first =>
    as_aux_lemma =>
    have HSU0 : Hid (Step (fun _ => False) w5 w5.drew) := Step.refl.drew
    refine Mxt.wp_region_tree [1, 3, 4, 5, 6] [1, 3, 4, 5] (.reads [0, 2] (.fork (.op 1 (.fork (.op 3 (.op 4 (.op 5 (.op 6 .leaf)))) (.op 4 (.op 3 (.op 5 (.op 6 .leaf)))))) (.fork (.op 3 (.fork (.op 1 (.op 4 (.op 5 (.op 6 .leaf)))) (.op 4 (.op 1 (.op 5 (.op 6 .leaf)))))) (.op 4 (.fork (.op 1 (.op 3 (.op 5 (.op 6 .leaf)))) (.op 3 (.op 1 (.op 5 (.op 6 .leaf))))))))) (Step (fun _ => False) w5) (by kernel_rfl) (by kernel_rfl) Step.refl.drew (fun hcls => ?_)
    obtain ⟨U0, hU0⟩ : ∃ U0, U0 = w5.drew := ⟨_, rfl⟩
    rw [← hU0] at HSU0 ⊢
    clear hU0
    refine Mxt.wpTL_reads ?_
    simp only [List.flatMap_cons, List.flatMap_nil, List.getElem?_cons_succ, List.getElem?_cons_zero, Option.toList_some, List.cons_append, List.nil_append]
    repeat (first | (refine BigFrame.wpQuiet_want (by rfl) (fun K hK => quiet_ld_mod _ rfl w4.heap.size rfl MM (fun w1 ⟨i, e⟩ => by rw [e, HMM.out]; exact HZ5.out.step i.prop id) HM17.out (hK _ ?_)); clear hK K; simp only [Act.put, List.setIfInBounds_toArray, List.set_cons_succ, List.set_cons_zero]) | (go_big_quiet_step (fail)))
    refine wpQuiet_nil ?_
    refine Mxt.wpTL_fork ?_ ?_
    · refine Mxt.wpTL_op (by rfl) (fun K hK => ?_)
      go_simp
      refine (HMo.out _ HSU0.out).mono ?_
      rintro e U1 ⟨a2, rfl, hrf, hsv⟩
      have HSU1 : Hid (Step (fun _ => False) w5 U1) := HSU0.out.trans hsv
      have HRU1 : Hid (Rf U1 (fun k => w5.heap.size ≤ k ∧ k < U1.heap.size) a2 new0) := hrf.mono fun k hk hh => ⟨Nat.le_trans HSU0.out.size hh, hk⟩
      refine hK _ _ (fun hlt => Mix.cl HSU1.out) ?_
      clear hK K hrf hsv
      refine Mxt.wpTL_fork ?_ ?_
      · refine Mxt.wpTL_op (by rfl) (fun K hK => ?_)
        go_simp
        refine hK _ _ (fun hlt => Mix.cl (Step.alloc HSU1.out _)) ?_
        clear hK K
        obtain ⟨U2, hU2⟩ : ∃ U2, U2 = U1.alloc (.cells #[.slice none 0 0, .slice none 0 0, .slice none 0 0, .slice none 0 0, .slice none 0 0, .slice none 0 0, .slice none 0 0, .int .i64 0, .slice none 0 0, .slice none 0 0, .slice none 0 0, .bool false, .int .u32 0, .int .u32 0, .int .u32 0, .int .u32 0, .slice none 0 0] 41) := ⟨_, rfl⟩
        have HSU2 : Hid (Step (fun _ => False) w5 U2) := by rw [hU2]; exact Step.alloc HSU1.out _
        have HSzU1 : Hid (w5.heap.size ≤ U1.heap.size) := HSU1.out.size
        have HG3U2 : Hid (Blk U2 (U1.heap.size) 41 #[.slice none 0 0, .slice none 0 0, .slice none 0 0, .slice none 0 0, .slice none 0 0, .slice none 0 0, .slice none 0 0, .int .i64 0, .slice none 0 0, .slice none 0 0, .slice none 0 0, .bool false, .int .u32 0, .int .u32 0, .int .u32 0, .int .u32 0, .slice none 0 0]) := by rw [hU2]; exact Blk.new U1 _ _
        have HRU2 : Hid (Rf U2 (fun k => w5.heap.size ≤ k ∧ k < U2.heap.size ∧ k ≠ U1.heap.size) a2 new0) := by
          rw [hU2]
          exact (HRU1.out.step (F := fun _ => False) (Step.alloc Step.refl _) (fun _ _ => id)).mono fun k _ hk => by simp; omega
        rw [← hU2]
        clear hU2
        refine Mxt.wpTL_op (by rfl) (fun K hK => ?_)
        go_simp
        refine hK _ _ (fun hlt => Mix.cl (Step.alloc HSU2.out _)) ?_
        clear hK K
        obtain ⟨U3, hU3⟩ : ∃ U3, U3 = U2.alloc (.cells #[.slice none 0 0, .slice none 0 0, .slice none 0 0, .slice none 0 0, .slice none 0 0, .slice none 0 0, .slice none 0 0, .int .i64 0, .slice none 0 0, .slice none 0 0, .slice none 0 0, .bool false, .int .u32 0, .int .u32 0, .int .u32 0, .int .u32 0, .slice none 0 0] 41) := ⟨_, rfl⟩
        have HSU3 : Hid (Step (fun _ => False) w5 U3) := by rw [hU3]; exact Step.alloc HSU2.out _
        have HSzU2 : Hid (w5.heap.size ≤ U2.heap.size) := HSU2.out.size
        have HG3U3 : Hid (Blk U3 (U1.heap.size) 41 #[.slice none 0 0, .slice none 0 0, .slice none 0 0, .slice none 0 0, .slice none 0 0, .slice none 0 0, .slice none 0 0, .int .i64 0, .slice none 0 0, .slice none 0 0, .slice none 0 0, .bool false, .int .u32 0, .int .u32 0, .int .u32 0, .int .u32 0, .slice none 0 0]) := by rw [hU3]; exact HG3U2.out.alloc _
        have HG4U3 : Hid (Blk U3 (U2.heap.size) 41 #[.slice none 0 0, .slice none 0 0, .slice none 0 0, .slice none 0 0, .slice none 0 0, .slice none 0 0, .slice none 0 0, .int .i64 0, .slice none 0 0, .slice none 0 0, .slice none 0 0, .bool false, .int .u32 0, .int .u32 0, .int .u32 0, .int .u32 0, .slice none 0 0]) := by rw [hU3]; exact Blk.new U2 _ _
        have HRU3 : Hid (Rf U3 (fun k => w5.heap.size ≤ k ∧ k < U3.heap.size ∧ k ≠ U1.heap.size ∧ k ≠ U2.heap.size) a2 new0) := by
          rw [hU3]
          exact (HRU2.out.step (F := fun _ => False) (Step.alloc Step.refl _) (fun _ _ => id)).mono fun k _ hk => by simp; omega
        have HNE : Hid (U1.heap.size ≠ U2.heap.size) := by have := HG3U2.out.lt; exact fun e => by omega
        rw [← hU3]
        clear hU3
        refine Mxt.wpTL_op (by rfl) (fun K hK => ?_)
        refine wp_st_mod _ _ rfl rfl (U1.heap.size) rfl (mdC a2 new0) rfl HG3U3.out rfl (mdC_size _ _) (mdC_one _ _) ?_
        refine hK _ _ (fun hlt => Mix.cl (HSU3.out.setRow (.inr (HSzU1.out)) _)) ?_
        clear hK K
        refine Mxt.wpTL_op (by rfl) (fun K hK => ?_)
        refine wp_st_mod _ _ rfl rfl (U2.heap.size) rfl MM rfl (HG4U3.out.step (Step.setRow (F := fun k => k = U1.heap.size) Step.refl (.inl rfl) _) (fun e => HNE.out e.symm)) rfl HM17.out HM1.out ?_
        refine hK _ _ (fun hlt => absurd hlt (by decide)) ?_
        clear hK K
        refine Mxt.wpTL_leaf ?_
        go_wp2_with fail
        go_meet
        refine ⟨U1.heap.size, U2.heap.size, a2, rfl, rfl, ?_⟩
        rw [HMM.out]
        exact Lw.init HMk5.out HS5.out hZlt hZge hzf HZ5.out HRf5.out HSU3.out HG3U3.out HG4U3.out HSzU1.out HSzU2.out HNE.out (HRU3.out.mono fun k _ hk => by omega)
      · refine Mxt.wpTL_op (by rfl) (fun K hK => ?_)
        go_simp
        refine hK _ _ (fun hlt => Mix.cl (Step.alloc HSU1.out _)) ?_
        clear hK K
        obtain ⟨U4, hU4⟩ : ∃ U4, U4 = U1.alloc (.cells #[.slice none 0 0, .slice none 0 0, .slice none 0 0, .slice none 0 0, .slice none 0 0, .slice none 0 0, .slice none 0 0, .int .i64 0, .slice none 0 0, .slice none 0 0, .slice none 0 0, .bool false, .int .u32 0, .int .u32 0, .int .u32 0, .int .u32 0, .slice none 0 0] 41) := ⟨_, rfl⟩
        have HSU4 : Hid (Step (fun _ => False) w5 U4) := by rw [hU4]; exact Step.alloc HSU1.out _
        have HSzU1 : Hid (w5.heap.size ≤ U1.heap.size) := HSU1.out.size
        have HG4U4 : Hid (Blk U4 (U1.heap.size) 41 #[.slice none 0 0, .slice none 0 0, .slice none 0 0, .slice none 0 0, .slice none 0 0, .slice none 0 0, .slice none 0 0, .int .i64 0, .slice none 0 0, .slice none 0 0, .slice none 0 0, .bool false, .int .u32 0, .int .u32 0, .int .u32 0, .int .u32 0, .slice none 0 0]) := by rw [hU4]; exact Blk.new U1 _ _
        have HRU4 : Hid (Rf U4 (fun k => w5.heap.size ≤ k ∧ k < U4.heap.size ∧ k ≠ U1.heap.size) a2 new0) := by
          rw [hU4]
          exact (HRU1.out.step (F := fun _ => False) (Step.alloc Step.refl _) (fun _ _ => id)).mono fun k _ hk => by simp; omega
        rw [← hU4]
        clear hU4
        refine Mxt.wpTL_op (by rfl) (fun K hK => ?_)
        go_simp
        refine hK _ _ (fun hlt => Mix.cl (Step.alloc HSU4.out _)) ?_
        clear hK K
        obtain ⟨U5, hU5⟩ : ∃ U5, U5 = U4.alloc (.cells #[.slice none 0 0, .slice none 0 0, .slice none 0 0, .slice none 0 0, .slice none 0 0, .slice none 0 0, .slice none 0 0, .int .i64 0, .slice none 0 0, .slice none 0 0, .slice none 0 0, .bool false, .int .u32 0, .int .u32 0, .int .u32 0, .int .u32 0, .slice none 0 0] 41) := ⟨_, rfl⟩
        have HSU5 : Hid (Step (fun _ => False) w5 U5) := by rw [hU5]; exact Step.alloc HSU4.out _
        have HSzU4 : Hid (w5.heap.size ≤ U4.heap.size) := HSU4.out.size
        have HG4U5 : Hid (Blk U5 (U1.heap.size) 41 #[.slice none 0 0, .slice none 0 0, .slice none 0 0, .slice none 0 0, .slice none 0 0, .slice none 0 0, .slice none 0 0, .int .i64 0, .slice none 0 0, .slice none 0 0, .slice none 0 0, .bool false, .int .u32 0, .int .u32 0, .int .u32 0, .int .u32 0, .slice none 0 0]) := by rw [hU5]; exact HG4U4.out.alloc _
        have HG3U5 : Hid (Blk U5 (U4.heap.size) 41 #[.slice none 0 0, .slice none 0 0, .slice none 0 0, .slice none 0 0, .slice none 0 0, .slice none 0 0, .slice none 0 0, .int .i64 0, .slice none 0 0, .slice none 0 0, .slice none 0 0, .bool false, .int .u32 0, .int .u32 0, .int .u32 0, .int .u32 0, .slice none 0 0]) := by rw [hU5]; exact Blk.new U4 _ _
        have HRU5 : Hid (Rf U5 (fun k => w5.heap.size ≤ k ∧ k < U5.heap.size ∧ k ≠ U1.heap.size ∧ k ≠ U4.heap.size) a2 new0) := by
          rw [hU5]
          exact (HRU4.out.step (F := fun _ => False) (Step.alloc Step.refl _) (fun _ _ => id)).mono fun k _ hk => by simp; omega
        have HNE : Hid (U1.heap.size ≠ U4.heap.size) := by have := HG4U4.out.lt; exact fun e => by omega
        rw [← hU5]
        clear hU5
        refine Mxt.wpTL_op (by rfl) (fun K hK => ?_)
        refine wp_st_mod _ _ rfl rfl (U4.heap.size) rfl (mdC a2 new0) rfl HG3U5.out rfl (mdC_size _ _) (mdC_one _ _) ?_
        refine hK _ _ (fun hlt => Mix.cl (HSU5.out.setRow (.inr (HSzU4.out)) _)) ?_
        clear hK K
        refine Mxt.wpTL_op (by rfl) (fun K hK => ?_)
        refine wp_st_mod _ _ rfl rfl (U1.heap.size) rfl MM rfl (HG4U5.out.step (Step.setRow (F := fun k => k = U4.heap.size) Step.refl (.inl rfl) _) (fun e => (fun e => HNE.out e.symm) e.symm)) rfl HM17.out HM1.out ?_
        refine hK _ _ (fun hlt => absurd hlt (by decide)) ?_
        clear hK K
        refine Mxt.wpTL_leaf ?_
        go_wp2_with fail
        go_meet
        refine ⟨U4.heap.size, U1.heap.size, a2, rfl, rfl, ?_⟩
        rw [HMM.out]
        exact Lw.init HMk5.out HS5.out hZlt hZge hzf HZ5.out HRf5.out HSU5.out HG3U5.out HG4U5.out HSzU4.out HSzU1.out (fun e => HNE.out e.symm) (HRU5.out.mono fun k _ hk => by omega)
    · refine Mxt.wpTL_fork ?_ ?_
      · refine Mxt.wpTL_op (by rfl) (fun K hK => ?_)
        go_simp
        refine hK _ _ (fun hlt => Mix.cl (Step.alloc HSU0.out _)) ?_
        clear hK K
        obtain ⟨U6, hU6⟩ : ∃ U6, U6 = U0.alloc (.cells #[.slice none 0 0, .slice none 0 0, .slice none 0 0, .slice none 0 0, .slice none 0 0, .slice none 0 0, .slice none 0 0, .int .i64 0, .slice none 0 0, .slice none 0 0, .slice none 0 0, .bool false, .int .u32 0, .int .u32 0, .int .u32 0, .int .u32 0, .slice none 0 0] 41) := ⟨_, rfl⟩
        have HSU6 : Hid (Step (fun _ => False) w5 U6) := by rw [hU6]; exact Step.alloc HSU0.out _
        have HSzU0 : Hid (w5.heap.size ≤ U0.heap.size) := HSU0.out.size
        have HG3U6 : Hid (Blk U6 (U0.heap.size) 41 #[.slice none 0 0, .slice none 0 0, .slice none 0 0, .slice none 0 0, .slice none 0 0, .slice none 0 0, .slice none 0 0, .int .i64 0, .slice none 0 0, .slice none 0 0, .slice none 0 0, .bool false, .int .u32 0, .int .u32 0, .int .u32 0, .int .u32 0, .slice none 0 0]) := by rw [hU6]; exact Blk.new U0 _ _
        rw [← hU6]
        clear hU6
        refine Mxt.wpTL_fork ?_ ?_
        · refine Mxt.wpTL_op (by rfl) (fun K hK => ?_)
          go_simp
          refine (HMo.out _ HSU6.out).mono ?_
          rintro e U7 ⟨a2, rfl, hrf, hsv⟩
          have HSU7 : Hid (Step (fun _ => False) w5 U7) := HSU6.out.trans hsv
          have HRU7 : Hid (Rf U7 (fun k => w5.heap.size ≤ k ∧ k < U7.heap.size ∧ k ≠ U0.heap.size) a2 new0) := hrf.mono fun k hk hh => ⟨Nat.le_trans HSU6.out.size hh, hk, fun e => by subst e; have := HG3U6.out.lt; omega⟩
          have HG3U7 := Lib.hid (HG3U6.out.step hsv id)
          refine hK _ _ (fun hlt => Mix.cl HSU7.out) ?_
          clear hK K hrf hsv
          refine Mxt.wpTL_op (by rfl) (fun K hK => ?_)
          go_simp
          refine hK _ _ (fun hlt => Mix.cl (Step.alloc HSU7.out _)) ?_
          clear hK K
          obtain ⟨U8, hU8⟩ : ∃ U8, U8 = U7.alloc (.cells #[.slice none 0 0, .slice none 0 0, .slice none 0 0, .slice none 0 0, .slice none 0 0, .slice none 0 0, .slice none 0 0, .int .i64 0, .slice none 0 0, .slice none 0 0, .slice none 0 0, .bool false, .int .u32 0, .int .u32 0, .int .u32 0, .int .u32 0, .slice none 0 0] 41) := ⟨_, rfl⟩
          have HSU8 : Hid (Step (fun _ => False) w5 U8) := by rw [hU8]; exact Step.alloc HSU7.out _
          have HSzU7 : Hid (w5.heap.size ≤ U7.heap.size) := HSU7.out.size
          have HG3U8 : Hid (Blk U8 (U0.heap.size) 41 #[.slice none 0 0, .slice none 0 0, .slice none 0 0, .slice none 0 0, .slice none 0 0, .slice none 0 0, .slice none 0 0, .int .i64 0, .slice none 0 0, .slice none 0 0, .slice none 0 0, .bool false, .int .u32 0, .int .u32 0, .int .u32 0, .int .u32 0, .slice none 0 0]) := by rw [hU8]; exact HG3U7.out.alloc _
          have HG4U8 : Hid (Blk U8 (U7.heap.size) 41 #[.slice none 0 0, .slice none 0 0, .slice none 0 0, .slice none 0 0, .slice none 0 0, .slice none 0 0, .slice none 0 0, .int .i64 0, .slice none 0 0, .slice none 0 0, .slice none 0 0, .bool false, .int .u32 0, .int .u32 0, .int .u32 0, .int .u32 0, .slice none 0 0]) := by rw [hU8]; exact Blk.new U7 _ _
          have HRU8 : Hid (Rf U8 (fun k => w5.heap.size ≤ k ∧ k < U8.heap.size ∧ k ≠ U0.heap.size ∧ k ≠ U7.heap.size) a2 new0) := by
            rw [hU8]
            exact (HRU7.out.step (F := fun _ => False) (Step.alloc Step.refl _) (fun _ _ => id)).mono fun k _ hk => by simp; omega
          have HNE : Hid (U0.heap.size ≠ U7.heap.size) := by have := HG3U7.out.lt; exact fun e => by omega
          rw [← hU8]
          clear hU8
          refine Mxt.wpTL_op (by rfl) (fun K hK => ?_)
          refine wp_st_mod _ _ rfl rfl (U0.heap.size) rfl (mdC a2 new0) rfl HG3U8.out rfl (mdC_size _ _) (mdC_one _ _) ?_
          refine hK _ _ (fun hlt => Mix.cl (HSU8.out.setRow (.inr (HSzU0.out)) _)) ?_
          clear hK K
          refine Mxt.wpTL_op (by rfl) (fun K hK => ?_)
          refine wp_st_mod _ _ rfl rfl (U7.heap.size) rfl MM rfl (HG4U8.out.step (Step.setRow (F := fun k => k = U0.heap.size) Step.refl (.inl rfl) _) (fun e => HNE.out e.symm)) rfl HM17.out HM1.out ?_
          refine hK _ _ (fun hlt => absurd hlt (by decide)) ?_
          clear hK K
          refine Mxt.wpTL_leaf ?_
          go_wp2_with fail
          go_meet
          refine ⟨U0.heap.size, U7.heap.size, a2, rfl, rfl, ?_⟩
          rw [HMM.out]
          exact Lw.init HMk5.out HS5.out hZlt hZge hzf HZ5.out HRf5.out HSU8.out HG3U8.out HG4U8.out HSzU0.out HSzU7.out HNE.out (HRU8.out.mono fun k _ hk => by omega)
        · refine Mxt.wpTL_op (by rfl) (fun K hK => ?_)
          go_simp
          refine hK _ _ (fun hlt => Mix.cl (Step.alloc HSU6.out _)) ?_
          clear hK K
          obtain ⟨U9, hU9⟩ : ∃ U9, U9 = U6.alloc (.cells #[.slice none 0 0, .slice none 0 0, .slice none 0 0, .slice none 0 0, .slice none 0 0, .slice none 0 0, .slice none 0 0, .int .i64 0, .slice none 0 0, .slice none 0 0, .slice none 0 0, .bool false, .int .u32 0, .int .u32 0, .int .u32 0, .int .u32 0, .slice none 0 0] 41) := ⟨_, rfl⟩
          have HSU9 : Hid (Step (fun _ => False) w5 U9) := by rw [hU9]; exact Step.alloc HSU6.out _
          have HSzU6 : Hid (w5.heap.size ≤ U6.heap.size) := HSU6.out.size
          have HG3U9 : Hid (Blk U9 (U0.heap.size) 41 #[.slice none 0 0, .slice none 0 0, .slice none 0 0, .slice none 0 0, .slice none 0 0, .slice none 0 0, .slice none 0 0, .int .i64 0, .slice none 0 0, .slice none 0 0, .slice none 0 0, .bool false, .int .u32 0, .int .u32 0, .int .u32 0, .int .u32 0, .slice none 0 0]) := by rw [hU9]; exact HG3U6.out.alloc _
          have HG4U9 : Hid (Blk U9 (U6.heap.size) 41 #[.slice none 0 0, .slice none 0 0, .slice none 0 0, .slice none 0 0, .slice none 0 0, .slice none 0 0, .slice none 0 0, .int .i64 0, .slice none 0 0, .slice none 0 0, .slice none 0 0, .bool false, .int .u32 0, .int .u32 0, .int .u32 0, .int .u32 0, .slice none 0 0]) := by rw [hU9]; exact Blk.new U6 _ _
          have HNE : Hid (U0.heap.size ≠ U6.heap.size) := by have := HG3U6.out.lt; exact fun e => by omega
          rw [← hU9]
          clear hU9
          refine Mxt.wpTL_op (by rfl) (fun K hK => ?_)
          go_simp
          refine (HMo.out _ HSU9.out).mono ?_
          rintro e U10 ⟨a2, rfl, hrf, hsv⟩
          have HSU10 : Hid (Step (fun _ => False) w5 U10) := HSU9.out.trans hsv
          have HRU10 : Hid (Rf U10 (fun k => w5.heap.size ≤ k ∧ k < U10.heap.size ∧ k ≠ U0.heap.size ∧ k ≠ U6.heap.size) a2 new0) := hrf.mono fun k hk hh => ⟨Nat.le_trans HSU9.out.size hh, hk, fun e => by subst e; have := HG3U9.out.lt; omega, fun e => by subst e; have := HG4U9.out.lt; omega⟩
          have HG3U10 := Lib.hid (HG3U9.out.step hsv id)
          have HG4U10 := Lib.hid (HG4U9.out.step hsv id)
          refine hK _ _ (fun hlt => Mix.cl HSU10.out) ?_
          clear hK K hrf hsv
          refine Mxt.wpTL_op (by rfl) (fun K hK => ?_)
          refine wp_st_mod _ _ rfl rfl (U0.heap.size) rfl (mdC a2 new0) rfl HG3U10.out rfl (mdC_size _ _) (mdC_one _ _) ?_
          refine hK _ _ (fun hlt => Mix.cl (HSU10.out.setRow (.inr (HSzU0.out)) _)) ?_
          clear hK K
          refine Mxt.wpTL_op (by rfl) (fun K hK => ?_)
          refine wp_st_mod _ _ rfl rfl (U6.heap.size) rfl MM rfl (HG4U10.out.step (Step.setRow (F := fun k => k = U0.heap.size) Step.refl (.inl rfl) _) (fun e => HNE.out e.symm)) rfl HM17.out HM1.out ?_
          refine hK _ _ (fun hlt => absurd hlt (by decide)) ?_
          clear hK K
          refine Mxt.wpTL_leaf ?_
          go_wp2_with fail
          go_meet
          refine ⟨U0.heap.size, U6.heap.size, a2, rfl, rfl, ?_⟩
          rw [HMM.out]
          exact Lw.init HMk5.out HS5.out hZlt hZge hzf HZ5.out HRf5.out HSU10.out HG3U10.out HG4U10.out HSzU0.out HSzU6.out HNE.out (HRU10.out.mono fun k _ hk => by omega)
      · refine Mxt.wpTL_op (by rfl) (fun K hK => ?_)
        go_simp
        refine hK _ _ (fun hlt => Mix.cl (Step.alloc HSU0.out _)) ?_
        clear hK K
        obtain ⟨U11, hU11⟩ : ∃ U11, U11 = U0.alloc (.cells #[.slice none 0 0, .slice none 0 0, .slice none 0 0, .slice none 0 0, .slice none 0 0, .slice none 0 0, .slice none 0 0, .int .i64 0, .slice none 0 0, .slice none 0 0, .slice none 0 0, .bool false, .int .u32 0, .int .u32 0, .int .u32 0, .int .u32 0, .slice none 0 0] 41) := ⟨_, rfl⟩
        have HSU11 : Hid (Step (fun _ => False) w5 U11) := by rw [hU11]; exact Step.alloc HSU0.out _
        have HSzU0 : Hid (w5.heap.size ≤ U0.heap.size) := HSU0.out.size
        have HG4U11 : Hid (Blk U11 (U0.heap.size) 41 #[.slice none 0 0, .slice none 0 0, .slice none 0 0, .slice none 0 0, .slice none 0 0, .slice none 0 0, .slice none 0 0, .int .i64 0, .slice none 0 0, .slice none 0 0, .slice none 0 0, .bool false, .int .u32 0, .int .u32 0, .int .u32 0, .int .u32 0, .slice none 0 0]) := by rw [hU11]; exact Blk.new U0 _ _
        rw [← hU11]
        clear hU11
        refine Mxt.wpTL_fork ?_ ?_
        · refine Mxt.wpTL_op (by rfl) (fun K hK => ?_)
          go_simp
          refine (HMo.out _ HSU11.out).mono ?_
          rintro e U12 ⟨a2, rfl, hrf, hsv⟩
          have HSU12 : Hid (Step (fun _ => False) w5 U12) := HSU11.out.trans hsv
          have HRU12 : Hid (Rf U12 (fun k => w5.heap.size ≤ k ∧ k < U12.heap.size ∧ k ≠ U0.heap.size) a2 new0) := hrf.mono fun k hk hh => ⟨Nat.le_trans HSU11.out.size hh, hk, fun e => by subst e; have := HG4U11.out.lt; omega⟩
          have HG4U12 := Lib.hid (HG4U11.out.step hsv id)
          refine hK _ _ (fun hlt => Mix.cl HSU12.out) ?_
          clear hK K hrf hsv
          refine Mxt.wpTL_op (by rfl) (fun K hK => ?_)
          go_simp
          refine hK _ _ (fun hlt => Mix.cl (Step.alloc HSU12.out _)) ?_
          clear hK K
          obtain ⟨U13, hU13⟩ : ∃ U13, U13 = U12.alloc (.cells #[.slice none 0 0, .slice none 0 0, .slice none 0 0, .slice none 0 0, .slice none 0 0, .slice none 0 0, .slice none 0 0, .int .i64 0, .slice none 0 0, .slice none 0 0, .slice none 0 0, .bool false, .int .u32 0, .int .u32 0, .int .u32 0, .int .u32 0, .slice none 0 0] 41) := ⟨_, rfl⟩
          have HSU13 : Hid (Step (fun _ => False) w5 U13) := by rw [hU13]; exact Step.alloc HSU12.out _
          have HSzU12 : Hid (w5.heap.size ≤ U12.heap.size) := HSU12.out.size
          have HG4U13 : Hid (Blk U13 (U0.heap.size) 41 #[.slice none 0 0, .slice none 0 0, .slice none 0 0, .slice none 0 0, .slice none 0 0, .slice none 0 0, .slice none 0 0, .int .i64 0, .slice none 0 0, .slice none 0 0, .slice none 0 0, .bool false, .int .u32 0, .int .u32 0, .int .u32 0, .int .u32 0, .slice none 0 0]) := by rw [hU13]; exact HG4U12.out.alloc _
          have HG3U13 : Hid (Blk U13 (U12.heap.size) 41 #[.slice none 0 0, .slice none 0 0, .slice none 0 0, .slice none 0 0, .slice none 0 0, .slice none 0 0, .slice none 0 0, .int .i64 0, .slice none 0 0, .slice none 0 0, .slice none 0 0, .bool false, .int .u32 0, .int .u32 0, .int .u32 0, .int .u32 0, .slice none 0 0]) := by rw [hU13]; exact Blk.new U12 _ _
          have HRU13 : Hid (Rf U13 (fun k => w5.heap.size ≤ k ∧ k < U13.heap.size ∧ k ≠ U0.heap.size ∧ k ≠ U12.heap.size) a2 new0) := by
            rw [hU13]
            exact (HRU12.out.step (F := fun _ => False) (Step.alloc Step.refl _) (fun _ _ => id)).mono fun k _ hk => by simp; omega
          have HNE : Hid (U0.heap.size ≠ U12.heap.size) := by have := HG4U12.out.lt; exact fun e => by omega
          rw [← hU13]
          clear hU13
          refine Mxt.wpTL_op (by rfl) (fun K hK => ?_)
          refine wp_st_mod _ _ rfl rfl (U12.heap.size) rfl (mdC a2 new0) rfl HG3U13.out rfl (mdC_size _ _) (mdC_one _ _) ?_
          refine hK _ _ (fun hlt => Mix.cl (HSU13.out.setRow (.inr (HSzU12.out)) _)) ?_
          clear hK K
          refine Mxt.wpTL_op (by rfl) (fun K hK => ?_)
          refine wp_st_mod _ _ rfl rfl (U0.heap.size) rfl MM rfl (HG4U13.out.step (Step.setRow (F := fun k => k = U12.heap.size) Step.refl (.inl rfl) _) (fun e => (fun e => HNE.out e.symm) e.symm)) rfl HM17.out HM1.out ?_
          refine hK _ _ (fun hlt => absurd hlt (by decide)) ?_
          clear hK K
          refine Mxt.wpTL_leaf ?_
          go_wp2_with fail
          go_meet
          refine ⟨U12.heap.size, U0.heap.size, a2, rfl, rfl, ?_⟩
          rw [HMM.out]
          exact Lw.init HMk5.out HS5.out hZlt hZge hzf HZ5.out HRf5.out HSU13.out HG3U13.out HG4U13.out HSzU12.out HSzU0.out (fun e => HNE.out e.symm) (HRU13.out.mono fun k _ hk => by omega)
        · refine Mxt.wpTL_op (by rfl) (fun K hK => ?_)
          go_simp
          refine hK _ _ (fun hlt => Mix.cl (Step.alloc HSU11.out _)) ?_
          clear hK K
          obtain ⟨U14, hU14⟩ : ∃ U14, U14 = U11.alloc (.cells #[.slice none 0 0, .slice none 0 0, .slice none 0 0, .slice none 0 0, .slice none 0 0, .slice none 0 0, .slice none 0 0, .int .i64 0, .slice none 0 0, .slice none 0 0, .slice none 0 0, .bool false, .int .u32 0, .int .u32 0, .int .u32 0, .int .u32 0, .slice none 0 0] 41) := ⟨_, rfl⟩
          have HSU14 : Hid (Step (fun _ => False) w5 U14) := by rw [hU14]; exact Step.alloc HSU11.out _
          have HSzU11 : Hid (w5.heap.size ≤ U11.heap.size) := HSU11.out.size
          have HG4U14 : Hid (Blk U14 (U0.heap.size) 41 #[.slice none 0 0, .slice none 0 0, .slice none 0 0, .slice none 0 0, .slice none 0 0, .slice none 0 0, .slice none 0 0, .int .i64 0, .slice none 0 0, .slice none 0 0, .slice none 0 0, .bool false, .int .u32 0, .int .u32 0, .int .u32 0, .int .u32 0, .slice none 0 0]) := by rw [hU14]; exact HG4U11.out.alloc _
          have HG3U14 : Hid (Blk U14 (U11.heap.size) 41 #[.slice none 0 0, .slice none 0 0, .slice none 0 0, .slice none 0 0, .slice none 0 0, .slice none 0 0, .slice none 0 0, .int .i64 0, .slice none 0 0, .slice none 0 0, .slice none 0 0, .bool false, .int .u32 0, .int .u32 0, .int .u32 0, .int .u32 0, .slice none 0 0]) := by rw [hU14]; exact Blk.new U11 _ _
          have HNE : Hid (U0.heap.size ≠ U11.heap.size) := by have := HG4U11.out.lt; exact fun e => by omega
          rw [← hU14]
          clear hU14
          refine Mxt.wpTL_op (by rfl) (fun K hK => ?_)
          go_simp
          refine (HMo.out _ HSU14.out).mono ?_
          rintro e U15 ⟨a2, rfl, hrf, hsv⟩
          have HSU15 : Hid (Step (fun _ => False) w5 U15) := HSU14.out.trans hsv
          have HRU15 : Hid (Rf U15 (fun k => w5.heap.size ≤ k ∧ k < U15.heap.size ∧ k ≠ U0.heap.size ∧ k ≠ U11.heap.size) a2 new0) := hrf.mono fun k hk hh => ⟨Nat.le_trans HSU14.out.size hh, hk, fun e => by subst e; have := HG4U14.out.lt; omega, fun e => by subst e; have := HG3U14.out.lt; omega⟩
          have HG4U15 := Lib.hid (HG4U14.out.step hsv id)
          have HG3U15 := Lib.hid (HG3U14.out.step hsv id)
          refine hK _ _ (fun hlt => Mix.cl HSU15.out) ?_
          clear hK K hrf hsv
          refine Mxt.wpTL_op (by rfl) (fun K hK => ?_)
          refine wp_st_mod _ _ rfl rfl (U11.heap.size) rfl (mdC a2 new0) rfl HG3U15.out rfl (mdC_size _ _) (mdC_one _ _) ?_
          refine hK _ _ (fun hlt => Mix.cl (HSU15.out.setRow (.inr (HSzU11.out)) _)) ?_
          clear hK K
          refine Mxt.wpTL_op (by rfl) (fun K hK => ?_)
          refine wp_st_mod _ _ rfl rfl (U0.heap.size) rfl MM rfl (HG4U15.out.step (Step.setRow (F := fun k => k = U11.heap.size) Step.refl (.inl rfl) _) (fun e => (fun e => HNE.out e.symm) e.symm)) rfl HM17.out HM1.out ?_
          refine hK _ _ (fun hlt => absurd hlt (by decide)) ?_
          clear hK K
          refine Mxt.wpTL_leaf ?_
          go_wp2_with fail
          go_meet
          refine ⟨U11.heap.size, U0.heap.size, a2, rfl, rfl, ?_⟩
          rw [HMM.out]
          exact Lw.init HMk5.out HS5.out hZlt hZge hzf HZ5.out HRf5.out HSU15.out HG3U15.out HG4U15.out HSzU11.out HSzU0.out (fun e => HNE.out e.symm) (HRU15.out.mono fun k _ hk => by omega)
  case rest =>
    clear HMo HZ5 HRf5 HMk5 HZ0 HMk4 HMk HAw HFw HK HRn hzf
    obtain ⟨g7, g8, a2, rfl, rfl, HL⟩ := hcut
    rw [HMM.out] at HL
    obtain ⟨Z, hZ⟩ : ∃ Z, Z = w4.heap.size := ⟨_, rfl⟩
    rw [← hZ] at HL ⊢
    clear hZ hZlt hZge HM17 HM1 HMM HW5 HS34
    go_wp2_with fail
    go_loopw [9] (fun iv wr => ∃ (j : Nat) (a am aw an : Ad) (s m sw sn : Mo) (tk vr : Int), j ≤ n ∧ iv = .int .i64 (j : Int) ∧ Hid (s.small (2 + j)) ∧ Hid (Lw w wr X Z g7 g8 a s tk vr am m aw an sw sn (mdC am m))) (fun iv _ => n + 1 - (intOf iv).toNat)
    case atStart => exact ⟨0, ad0 gk, ad0 gm, a2, ad0 gm, new0, new0, new0, new0, 0, 0, Nat.zero_le _, rfl, ⟨by decide, by decide, by decide, by decide, by decide, by decide, by decide, by decide, by decide⟩, HL⟩
    case round =>
      clear HL
      obtain ⟨j, a, am, aw, an, s, m, sw, sn, tk, vr, hj, rfl, hsm, HLw⟩ := hrel
      obtain ⟨MA, hMA⟩ : ∃ MA, MA = mdC am m := ⟨_, rfl⟩
      have HMA := Lib.hid hMA
      have H17 : Hid (MA.size = 17) := by rw [Hid, hMA]; rfl
      have H1 : Hid (MA.all (·.oneCell') = true) := by rw [Hid, hMA]; exact mdC_one _ _
      rw [← hMA] at HLw
      by_cases hlt : j < n
      · have g1 : (j : Int) < (n : Int) := by omega
        have i0 : (0 : Int) ≤ (j : Int) := by omega
        have hw1 := IntWalk.i64_in ((j : Int) + 1) (by omega)
        have hjl : j < l.length := by rw [← HN.out]; exact hlt
        have hs900 : s.small 900 := by obtain ⟨h0, h1, h2, h3, h4, h5, h6, h7, h8⟩ := hsm.out; exact ⟨by omega, by omega, by omega, by omega, by omega, by omega, by omega, by omega, by omega⟩
        obtain ⟨bk, off, rfl, hSb, hbl, hc⟩ := reads_row Opx.cl 11 (by decide) Opx.len (HR.out.step HLw.out.s0 (fun k hk h => by omega)) (k := j) hjl
        have hbk : ¬ ftA X a bk := fun e => by have := HLw.out.st.mkr.gef bk e; omega
        obtain ⟨o, ho⟩ : ∃ o, o = l[j] := ⟨_, rfl⟩
        have hmem : o ∈ l := by rw [ho]; exact List.getElem_mem hjl
        have hfit : o.fit := HFit.out j hlt o (by rw [ho]; exact List.getElem?_eq_getElem hjl)
        rw [← ho] at hc
        have t0 := hc 0 _ rfl
        have t1 := hc 1 _ rfl
        have t2 := hc 2 _ rfl
        have t3 := hc 3 _ rfl
        have t4 := hc 4 _ rfl
        have t5 := hc 5 _ rfl
        have t6 := hc 6 _ rfl
        have t7 := hc 7 _ rfl
        have t8 := hc 8 _ rfl
        have t9 := hc 9 _ rfl
        have t10 := hc 10 _ rfl
        simp only [Nat.add_zero] at t0
        have d0 := cls_cell (F := fun k => ftA X a k) t0 hbk
        have d1 := cls_cell (F := fun k => ftA X a k) t1 hbk
        have d2 := cls_cell (F := fun k => ftA X a k) t2 hbk
        have d3 := cls_cell (F := fun k => ftA X a k) t3 hbk
        have d4 := cls_cell (F := fun k => ftA X a k) t4 hbk
        have d5 := cls_cell (F := fun k => ftA X a k) t5 hbk
        have d6 := cls_cell (F := fun k => ftA X a k) t6 hbk
        have d7 := cls_cell (F := fun k => ftA X a k) t7 hbk
        have d8 := cls_cell (F := fun k => ftA X a k) t8 hbk
        have d9 := cls_cell (F := fun k => ftA X a k) t9 hbk
        have d10 := cls_cell (F := fun k => ftA X a k) t10 hbk
        have hge : ∀ k, ftA X a k → w.heap.size ≤ k := HLw.out.st.mkr.gef
        have hDo : ∀ U, Step (fun _ => False) wr U → Calls Try.prog 9 #[.pointer (some ⟨X, 0, none⟩), .agg (mdC am m), .agg o.cells] U (DOut (Old (Lt X Z g7 g8 a) wr) U w.heap.size X a s) := fun U hU => by
          have hs0U := HLw.out.s0.trans (hU.mono (fun _ _ h => h.elim))
          refine do_all (Old (Lt X Z g7 g8 a) wr) U w.heap.size X a s tk vr am m ((HLw.out.st.mono (T' := Old (Lt X Z g7 g8 a) wr) (fun k hk hh => ⟨hh, hk⟩) (fun k hk => hk.1.1)).step hU (fun _ _ => id) apart_none) hs0U.size hs900 o ?_
          refine (((HO.out o hmem).ok hfit).step hs0U (fun k hk h => by omega)).mono fun k hk hh => ⟨⟨⟨fun e => by have := hge k e; omega, ?_, ?_, ?_⟩, by have := HLw.out.s0.size; omega⟩, hk⟩
          · have := HLw.out.e1; omega
          · have := HLw.out.e2; omega
          · have := HLw.out.e3; omega
        rw [← hMA] at hDo
        have HDo := Lib.hid hDo
        clear hDo hc ho hMA hfit hmem
        go_wp2_with fail
        clear t0 t1 t2 t3 t4 t5 t6 t7 t8 t9 t10
        go_cut [10, 11] (fun s10 s11 wq => ∃ (g10 : Nat) (b : Bool) (a' am' : Ad) (s' m' : Mo) (tk' vr' : Int), s10 = .pointer (some ⟨g10, 0, none⟩) ∧ s11 = .bool b ∧ Hid (Blk wq g10 41 (mdC am' m')) ∧ Hid (Lw w wq X Z g7 g8 a' s' tk' vr' am' m' aw an sw sn MA) ∧ Hid (Grow s s'))
        case first =>
          as_aux_lemma =>
          have HSU0 : Hid (Step (fun _ => False) wr wr.drew) := Step.refl.drew
          refine Mxt.wp_region_tree [6, 10, 11] [6, 10, 11] (.reads [0, 1, 2, 3, 4, 5] (.fork (.op 6 (.reads [7, 8, 9] (.op 10 (.op 11 (.reads [12] .leaf))))) (.op 10 (.op 6 (.reads [7, 8, 9] (.op 11 (.reads [12] .leaf))))))) (Step (fun k => ftA X a k) wr) (by kernel_rfl) (by kernel_rfl) Step.refl.drew (fun hcls => ?_)
          obtain ⟨U0, hU0⟩ : ∃ U0, U0 = wr.drew := ⟨_, rfl⟩
          rw [← hU0] at HSU0 ⊢
          clear hU0
          refine Mxt.wpTL_reads ?_
          simp only [List.flatMap_cons, List.flatMap_nil, List.getElem?_cons_succ, List.getElem?_cons_zero, Option.toList_some, List.cons_append, List.nil_append]
          repeat (first | (refine BigFrame.wpQuiet_want (by rfl) (fun K hK => quiet_ld_mod _ rfl Z rfl MA (fun w1 ⟨i, e⟩ => by rw [e]; exact HLw.out.zb.step i.prop HLw.out.zf) H17.out (hK _ ?_)); clear hK K; simp only [Act.put, List.setIfInBounds_toArray, List.set_cons_succ, List.set_cons_zero]) | (go_big_quiet_step (fail)))
          refine wpQuiet_nil ?_
          refine Mxt.wpTL_fork ?_ ?_
          · refine Mxt.wpTL_op (by rfl) (fun K hK => ?_)
            go_simp
            refine (HDo.out _ HSU0.out).mono ?_
            rintro e U1 ⟨a', s', tk', vr', am', m', b, rfl, hst, hup, hgr⟩
            have HC1 : Hid (Step (fun k => ftA X a k) wr U1) := (HSU0.out.mono (fun _ _ h => h.elim)).trans hup.1
            refine hK _ _ (fun hlt => Mix.cl HC1.out) ?_
            clear hK K
            refine Mxt.wpTL_reads ?_
            simp only [List.flatMap_cons, List.flatMap_nil, List.getElem?_cons_succ, List.getElem?_cons_zero, Option.toList_some, List.cons_append, List.nil_append]
            repeat (go_big_quiet_step (fail))
            refine wpQuiet_nil ?_
            refine Mxt.wpTL_op (by rfl) (fun K hK => ?_)
            go_simp
            refine hK _ _ (fun hlt => Mix.cl (Step.alloc HC1.out _)) ?_
            clear hK K
            have hb17 := Blk.new U1 41 #[.slice none 0 0, .slice none 0 0, .slice none 0 0, .slice none 0 0, .slice none 0 0, .slice none 0 0, .slice none 0 0, .int .i64 0, .slice none 0 0, .slice none 0 0, .slice none 0 0, .bool false, .int .u32 0, .int .u32 0, .int .u32 0, .int .u32 0, .slice none 0 0]
            refine Mxt.wpTL_op (by rfl) (fun K hK => ?_)
            refine wp_st_mod _ _ rfl rfl U1.heap.size rfl (mdC am' m') rfl hb17 rfl (mdC_size _ _) (mdC_one _ _) ?_
            refine hK _ _ (fun hlt => Mix.cl ((Step.alloc HC1.out _).setRow (.inr HC1.out.size) _)) ?_
            clear hK K
            refine Mxt.wpTL_reads ?_
            simp only [List.flatMap_cons, List.flatMap_nil, List.getElem?_cons_succ, List.getElem?_cons_zero, Option.toList_some, List.cons_append, List.nil_append]
            repeat (go_big_quiet_step (fail))
            refine wpQuiet_nil ?_
            refine Mxt.wpTL_leaf ?_
            go_wp2_with fail
            go_meet
            have hA : Step (fun _ => False) U1 (U1.alloc (.cells #[.slice none 0 0, .slice none 0 0, .slice none 0 0, .slice none 0 0, .slice none 0 0, .slice none 0 0, .slice none 0 0, .int .i64 0, .slice none 0 0, .slice none 0 0, .slice none 0 0, .bool false, .int .u32 0, .int .u32 0, .int .u32 0, .int .u32 0, .slice none 0 0] 41)) := Step.alloc Step.refl _
            exact ⟨U1.heap.size, b, a', am', s', m', tk', vr', rfl, rfl, hb17.row _, HLw.out.call2 HSU0.out hst hup ((hA.setRow (.inr (Nat.le_refl _)) _).mono (fun _ _ h => h.elim)) HC1.out.size (.inr (Nat.le_refl _)), hgr⟩
          · refine Mxt.wpTL_op (by rfl) (fun K hK => ?_)
            go_simp
            refine hK _ _ (fun hlt => Mix.cl (Step.alloc (HSU0.out.mono (fun _ _ h => h.elim)) _)) ?_
            clear hK K
            obtain ⟨U1, hU1⟩ : ∃ U1, U1 = U0.alloc (.cells #[.slice none 0 0, .slice none 0 0, .slice none 0 0, .slice none 0 0, .slice none 0 0, .slice none 0 0, .slice none 0 0, .int .i64 0, .slice none 0 0, .slice none 0 0, .slice none 0 0, .bool false, .int .u32 0, .int .u32 0, .int .u32 0, .int .u32 0, .slice none 0 0] 41) := ⟨_, rfl⟩
            have hb17 : Blk U1 U0.heap.size 41 #[.slice none 0 0, .slice none 0 0, .slice none 0 0, .slice none 0 0, .slice none 0 0, .slice none 0 0, .slice none 0 0, .int .i64 0, .slice none 0 0, .slice none 0 0, .slice none 0 0, .bool false, .int .u32 0, .int .u32 0, .int .u32 0, .int .u32 0, .slice none 0 0] := by rw [hU1]; exact Blk.new U0 _ _
            have hlt17 := hb17.lt
            have HSU1 : Hid (Step (fun _ => False) wr U1) := by rw [hU1]; exact Step.alloc HSU0.out _
            rw [← hU1]
            clear hU1
            refine Mxt.wpTL_op (by rfl) (fun K hK => ?_)
            go_simp
            refine (HDo.out _ HSU1.out).mono ?_
            rintro e U2 ⟨a', s', tk', vr', am', m', b, rfl, hst, hup, hgr⟩
            have HC1 : Hid (Step (fun k => ftA X a k) wr U2) := (HSU1.out.mono (fun _ _ h => h.elim)).trans hup.1
            refine hK _ _ (fun hlt => Mix.cl HC1.out) ?_
            clear hK K
            refine Mxt.wpTL_reads ?_
            simp only [List.flatMap_cons, List.flatMap_nil, List.getElem?_cons_succ, List.getElem?_cons_zero, Option.toList_some, List.cons_append, List.nil_append]
            repeat (go_big_quiet_step (fail))
            refine wpQuiet_nil ?_
            have hinw : ∀ k, ftA X a k → k < wr.heap.size := HLw.out.st.mkr.in_
            have hU0s := HSU0.out.size
            have hb2 := hb17.step hup.1 (fun e => by have := hinw _ e; omega)
            refine Mxt.wpTL_op (by rfl) (fun K hK => ?_)
            refine wp_st_mod _ _ rfl rfl U0.heap.size rfl (mdC am' m') rfl hb2 rfl (mdC_size _ _) (mdC_one _ _) ?_
            refine hK _ _ (fun hlt => Mix.cl (HC1.out.setRow (.inr hU0s) _)) ?_
            clear hK K
            refine Mxt.wpTL_reads ?_
            simp only [List.flatMap_cons, List.flatMap_nil, List.getElem?_cons_succ, List.getElem?_cons_zero, Option.toList_some, List.cons_append, List.nil_append]
            repeat (go_big_quiet_step (fail))
            refine wpQuiet_nil ?_
            refine Mxt.wpTL_leaf ?_
            go_wp2_with fail
            go_meet
            exact ⟨U0.heap.size, b, a', am', s', m', tk', vr', rfl, rfl, hb2.row _, HLw.out.call2 HSU1.out hst hup (Step.setRow (F := fun k => k = U0.heap.size) Step.refl (.inl rfl) _) hU0s (.inl hlt17), hgr⟩
        case rest =>
          clear HDo d0 d1 d2 d3 d4 d5 d6 d7 d8 d9 d10 hbk hge
          obtain ⟨g10, b, a', am', s', m', tk', vr', rfl, rfl, HBn, HL2, HGr⟩ := hcut
          obtain ⟨MB, hMB⟩ : ∃ MB, MB = mdC am' m' := ⟨_, rfl⟩
          have H17b : Hid (MB.size = 17) := by rw [Hid, hMB]; rfl
          have H1b : Hid (MB.all (·.oneCell') = true) := by rw [Hid, hMB]; exact mdC_one _ _
          have HMB := Lib.hid hMB
          rw [← hMB] at HBn
          have HL3 := Lib.hid (HL2.out.setZ (M' := MB))
          have HGs : Hid (s'.small (2 + (j + 1))) := HGr.out _ hsm.out
          obtain ⟨r, hr⟩ : ∃ r : Nat, r = p % 25 := ⟨_, rfl⟩
          have hr25 : r < 25 := by omega
          have q25 : (p : Int) % 25 = (r : Int) := by omega
          have hrem : (p : Int).tmod 25 = (r : Int) := by rw [IntWalk.rem_in _ _ (by omega)]; exact q25
          have hwu := IntWalk.u8_in (r : Int) (by omega)
          have hwi := IntWalk.i64_in (r : Int) (by omega)
          obtain ⟨w7, hw7⟩ : ∃ w7, w7 = wc.setRow Z MB := ⟨_, rfl⟩
          rw [← hw7] at HL3
          have HW7 := Lib.hid hw7
          clear hr hw7 hMB HGr
          obtain ⟨bb, hbb⟩ : ∃ bb, ((j : Int) == (r : Int)) = bb := ⟨_, rfl⟩
          cases bb
          · go_wp2_with (first | (refine ld_mod rfl _ rfl g10 rfl MB HBn.out H17b.out ?_) | (refine st_mod rfl _ _ rfl rfl Z rfl MB rfl HL2.out.zb H17.out H17b.out H1b.out ?_; rw [← HW7.out]))
            go_roundw
            case rel => exact ⟨j + 1, a', am', aw, an, s', m', sw, sn, tk', vr', by omega, by rw [Int.natCast_add]; rfl, HGs, by rw [← HMB.out]; exact HL3⟩
            case measure => simp [intOf]; omega
          · go_wp2_with (first | (refine ld_mod rfl _ rfl g10 rfl MB HBn.out H17b.out ?_) | (refine st_mod rfl _ _ rfl rfl Z rfl MB rfl HL2.out.zb H17.out H17b.out H1b.out ?_; rw [← HW7.out]))
            have hs9 : s'.small 900 := by obtain ⟨h0, h1, h2, h3, h4, h5, h6, h7, h8⟩ := HGs.out; exact ⟨by omega, by omega, by omega, by omega, by omega, by omega, by omega, by omega, by omega⟩
            have hs10 : s'.small 1000 := by obtain ⟨h0, h1, h2, h3, h4, h5, h6, h7, h8⟩ := hs9; exact ⟨by omega, by omega, by omega, by omega, by omega, by omega, by omega, by omega, by omega⟩
            have HMd := Lib.hid (module_ok w7.drew w.heap.size X a' s' tk' vr' (HL3.out.st.mkr.quiet Step.refl.drew) hs10)
            have HS9 := Lib.hid hs9
            clear hs9 hs10 HBn HL2
            refine Mix.wp_region_mix [1, 3, 4] [1, 3] (Step (fun k => k = g7 ∨ k = g8) w7) (by kernel_rfl) (by kernel_rfl) (Step.refl.drew) (fun hcls => ?_)
            refine Mix.wpL_reads 1 (by rfl) ?_
            simp only [List.take_succ_cons, List.drop_succ_cons, List.take_zero, List.drop_zero]
            repeat (go_big_quiet_step (fail))
            refine wpQuiet_nil ?_
            refine Mix.wpL_op (by rfl) (fun K hK => ?_)
            go_simp
            refine HMd.out.mono ?_
            rintro e w8 ⟨a3, rfl, hrf, hs8⟩
            have hs78 : Step (fun _ => False) w7 w8 := Step.refl.drew.trans hs8
            have HC : Hid (Step (fun k => k = g7 ∨ k = g8) w7 w8) := hs78.mono (fun _ _ h => h.elim)
            have HL4 := Lib.hid (HL3.out.quiet hs78)
            have hRl : Hid (Rf w8 (Lt X Z g7 g8 a') a3 s') := hrf.mono fun k hk hh => by
              have e1 : w7.heap.size ≤ k := hh
              exact ⟨fun e => by have := HL3.out.st.mkr.in_ k e; omega, by have := HL3.out.zb.lt; omega, by have := HL3.out.wb.lt; omega, by have := HL3.out.nb.lt; omega⟩
            refine hK _ _ (fun hlt => Mix.cl (HC.out)) ?_
            clear hK K
            clear hrf hs8 hs78
            refine Mix.wpL_reads 1 (by rfl) ?_
            simp only [List.take_succ_cons, List.drop_succ_cons, List.take_zero, List.drop_zero]
            repeat (first | (refine BigFrame.wpQuiet_want (by rfl) (fun K hK => quiet_ld_mod _ rfl (Z) rfl MB (fun w1 ⟨i, e⟩ => by rw [e]; exact HL3.out.zb.step i.prop (fun e => by rcases e with e | e; exact HL3.out.d1 e; exact HL3.out.d2 e)) H17b.out (hK _ ?_)); clear hK K; simp only [Act.put, List.setIfInBounds_toArray, List.set_cons_succ, List.set_cons_zero]) | (go_big_quiet_step (fail)))
            refine wpQuiet_nil ?_
            have hc1 : Step (fun k => k = g7 ∨ k = g8) w7 (w8.setRow g7 (mdC a3 s')) := Step.setRow (F := fun k => k = g7 ∨ k = g8) HC.out (.inl (.inl rfl)) _
            refine Mix.wpL_op (by rfl) (fun K hK => ?_)
            refine wp_st_mod _ _ rfl rfl g7 rfl (mdC a3 s') rfl HL4.out.wb (mdC_size _ _) (mdC_size _ _) (mdC_one _ _) ?_
            refine hK _ _ (fun hlt => Mix.cl (hc1)) ?_
            clear hK K
            refine Mix.wpL_op (by rfl) (fun K hK => ?_)
            refine wp_st_mod _ _ rfl rfl g8 rfl MB rfl (HL4.out.nb.step (Step.setRow (F := fun k => k = g7) Step.refl (.inl rfl) _) (fun e => HL4.out.d3 e.symm)) (mdC_size _ _) H17b.out H1b.out ?_
            refine hK _ _ (fun hlt => absurd hlt (by decide)) ?_
            clear hK K
            refine Mix.wpL_end ?_
            have HL5 : Hid (Lw w ((w8.setRow g7 (mdC a3 s')).setRow g8 MB) X Z g7 g8 a' s' tk' vr' am' m' a3 am' s' m' MB) := by
              have h := HL4.out
              rw [HMB.out] at h ⊢
              exact h.snap hRl.out HS9.out
            obtain ⟨w9, hw9⟩ : ∃ w9, w9 = (w8.setRow g7 (mdC a3 s')).setRow g8 MB := ⟨_, rfl⟩
            rw [← hw9] at HL5 ⊢
            clear hw9 hc1
            go_wp2_with fail
            go_roundw
            case rel => exact ⟨j + 1, a', am', a3, am', s', m', s', m', tk', vr', by omega, by rw [Int.natCast_add]; rfl, HGs, by rw [← HMB.out]; exact HL5⟩
            case measure => simp [intOf]; omega
      · obtain rfl : j = n := by omega
        have HSm := Lib.hid (msame wr aw an sw sn _ HLw.out.al HLw.out.rw_ HLw.out.rn HLw.out.iw HLw.out.in_ (by obtain ⟨h0, h1, h2, h3, h4, h5, h6, h7, h8⟩ := HLw.out.sm; exact ⟨by omega, by omega, by omega, by omega, by omega, by omega, by omega, by omega, by omega⟩))
        clear hMA
        go_wp2_with (first | (refine ld_mod rfl _ rfl g7 rfl (mdC aw sw) HLw.out.wb (mdC_size _ _) ?_) | (refine ld_mod rfl _ rfl g8 rfl (mdC an sn) HLw.out.nb (mdC_size _ _) ?_))
        refine HSm.out.mono ?_
        rintro e w' ⟨rfl, hs⟩
        go_wp2_with fail
        go_ret
        exact ⟨rfl, (HLw.out.s0.trans (hs.mono (fun _ _ h => h.elim))).below _ (fun k _ h => h) (Nat.le_refl _)⟩
end Go.Proofs.Ytflgpjdpofmbkaa
