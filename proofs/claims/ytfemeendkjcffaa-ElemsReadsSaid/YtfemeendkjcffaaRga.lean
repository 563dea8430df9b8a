/-
  Rga: RnA, ReT, ReU, ReV, ReX.
-/
import Derived.Test.YtfemeendkjcffaaReM
import Derived.Test.YtfemeendkjcffaaReE
import Derived.Test.YtfemeendkjcffaaReO
set_option linter.unusedVariables false
set_option linter.unusedSimpArgs false
/-! Lists read one behind the other: the program's way (given up at the first error) and the reference's (a state); the plain law. -/
namespace Go.Proofs.Ytfemeendkjcffaa
open Go.RowKit

/-- n of them, one behind the other. -/
def readN {α : Type} (f : Nat → Rs α) : Nat → Nat → Rs (List α)
  | 0, k => .ok [] k
  | n + 1, k => match f k with
    | .er y a => .er y a
    | .ok x k1 => match readN f n k1 with
      | .er y a => .er y a
      | .ok l k2 => .ok (x :: l) k2
/-- What is read behind what was read. -/
def preR {α : Type} (l : List α) : Rs (List α) → Rs (List α)
  | .ok m k => .ok (l ++ m) k
  | .er y a => .er y a
theorem preR_nil {α : Type} (r : Rs (List α)) : preR [] r = r := by cases r <;> rfl
theorem readN_zero {α : Type} (f : Nat → Rs α) (k : Nat) : readN f 0 k = .ok [] k := rfl
theorem readN_er {α : Type} {f : Nat → Rs α} {n k y a : Nat} (h : f k = .er y a) (l : List α) : preR l (readN f (n + 1) k) = .er y a := by
  rw [readN, h]
  rfl
theorem readN_ok {α : Type} {f : Nat → Rs α} {n k k1 : Nat} {x : α} (h : f k = .ok x k1) (l : List α) : preR l (readN f (n + 1) k) = preR (l ++ [x]) (readN f n k1) := by
  rw [readN, h]
  dsimp only
  cases readN f n k1 with
  | er y a => rfl
  | ok m k2 => simp [preR]
theorem readN_all {α : Type} {f : Nat → Rs α} {p : α → Prop} (hf : ∀ k x k', f k = .ok x k' → p x) : ∀ (n k : Nat) (l : List α) (k' : Nat), readN f n k = .ok l k' → l.length = n ∧ ∀ x ∈ l, p x
  | 0, k, l, k', h => by
    rw [readN_zero] at h
    injection h with h1 h2
    subst h1
    exact ⟨rfl, fun x hx => by cases hx⟩
  | n + 1, k, l, k', h => by
    rw [readN] at h
    cases hx : f k with
    | er y a => rw [hx] at h; cases h
    | ok x k1 =>
      rw [hx] at h
      dsimp only at h
      cases hm : readN f n k1 with
      | er y a => rw [hm] at h; cases h
      | ok m k2 =>
        rw [hm] at h
        injection h with h1 h2
        subst h1
        obtain ⟨i1, i2⟩ := readN_all hf n k1 m k2 hm
        exact ⟨by rw [List.length_cons, i1], fun z hz => by
          rcases List.mem_cons.1 hz with rfl | hz
          · exact hf _ _ _ hx
          · exact i2 z hz⟩

/-- The reference's loop. -/
def stN {α : Type} (f : Rst → α × Rst) : Nat → Rst → List α × Rst
  | 0, s => ([], s)
  | n + 1, s => if s.y = 0 then ((f s).1 :: (stN f n (f s).2).1, (stN f n (f s).2).2) else ([], s)
theorem stN_zero {α : Type} (f : Rst → α × Rst) (s : Rst) : stN f 0 s = ([], s) := rfl
theorem stN_stop {α : Type} (f : Rst → α × Rst) (n : Nat) (s : Rst) (h : ¬ s.y = 0) : stN f n s = ([], s) := by
  cases n with
  | zero => rfl
  | succ n => rw [stN, if_neg h]
theorem stN_go {α : Type} (f : Rst → α × Rst) (n : Nat) (s : Rst) (h : s.y = 0) (l : List α) : (l ++ (stN f (n + 1) s).1, (stN f (n + 1) s).2) = ((l ++ [(f s).1]) ++ (stN f n (f s).2).1, (stN f n (f s).2).2) := by
  rw [stN, if_pos h]
  simp
theorem stN_tel {α : Type} {f : Nat → Rs α} {g : Rst → α × Rst} (a : Nat) (h : ∀ k, Tel (f k) id a (g ⟨k, 0, a⟩)) : ∀ n k, Tel (readN f n k) id a (stN g n ⟨k, 0, a⟩)
  | 0, k => rfl
  | n + 1, k => by
    have h1 := h k
    rw [readN, stN, if_pos rfl]
    cases hf : f k with
    | er y b =>
      rw [hf] at h1
      obtain ⟨g1, g2, g3⟩ := h1
      have hs : ¬ (g ⟨k, 0, a⟩).2.y = 0 := by rw [g2]; exact g1
      dsimp only
      rw [stN_stop _ _ _ hs]
      exact ⟨g1, g2, g3⟩
    | ok x k1 =>
      rw [hf] at h1
      have e1 : g ⟨k, 0, a⟩ = (x, ⟨k1, 0, a⟩) := h1
      have h2 := stN_tel a h n k1
      rw [e1]
      dsimp only
      cases hr : readN f n k1 with
      | er y b =>
        rw [hr] at h2
        exact h2
      | ok m k2 =>
        rw [hr] at h2
        have e2 : stN g n ⟨k1, 0, a⟩ = (m, ⟨k2, 0, a⟩) := h2
        dsimp only
        rw [e2]
        rfl
end Go.Proofs.Ytfemeendkjcffaa
/-! globals: scan.Global, Get of any bytes. -/
namespace Go.Proofs.Ytfemeendkjcffaa
open Go.RowKit

theorem vtyF_lt {bs : List UInt8} {k v k' : Nat} (h : vtyF bs k = .ok v k') : v < 256 := by
  rw [vtyF] at h
  split at h
  · rename_i t k1 hb
    split at h
    · injection h with h1 h2
      rw [← h1]
      exact byF_lt hb
    · cases h
  · cases h

set_option maxRecDepth 100000 in
set_option maxHeartbeats 3200000 in
theorem global_any (w : World) (X : Nat) (S : Nat → Prop) (D : Option Addr) (c : Nat) (bs : List UInt8) (k : Nat) (h : Scn w X S D c bs k) :
    Calls Try.prog 165 #[.pointer (some ⟨X, 0, none⟩)] w (Pg X S D c bs w (gtyF bs k) fun v => .agg #[.int .u8 (v.1 : Int), .bool v.2]) := by
  have hxl := h.lt
  have hlow := h.low
  have HH := Lib.hid h
  obtain ⟨RR, hRR⟩ : ∃ RR, RR = gtyF bs k := ⟨_, rfl⟩
  rw [← hRR]
  have HRR := Lib.hid hRR
  clear h hRR
  have HB0 := Lib.hid (Blk.new w 66 #[.int .u8 0, .bool false])
  have HT0 := Lib.hid ((Step.refl (F := fun i => i = X)).alloc (w := w) (.cells #[.int .u8 0, .bool false] 66))
  obtain ⟨R, hR⟩ : ∃ R, R = w.heap.size := ⟨_, rfl⟩
  have hRX : R ≠ X := by omega
  have hRw : w.heap.size ≤ R := by omega
  have hRS : ∀ j, S j → j ≠ R := fun j hj => by have := hlow j hj; omega
  rw [← hR] at HB0
  go_enter Try.func165, Try.ntmps165
  go_wp2_with fail
  refine (vtype_any _ X S D c bs k (HH.out.alloc _)).mono ?_
  intro e w5 hp
  cases hr : vtyF bs k with
  | er y a =>
    have HE := Lib.hid hr
    rw [hr] at hp
    clear hr
    obtain ⟨rfl, ht⟩ := hp
    refine ⟨rfl, ?_⟩
    rw [show RR = Rs.er y a from (by rw [HRR.out, gtyF]; simp only [HE.out])]
    exact ⟨rfl, HT0.out.trans ht⟩
  | ok t k1 =>
    have HE := Lib.hid hr
    have htl := vtyF_lt hr
    rw [hr] at hp
    clear hr
    obtain ⟨rfl, hs5, hst5⟩ := hp
    have HRR2 : Hid (RR = match byF bs k1 with | .ok m k2 => if m ≤ 1 then .ok (t, decide (m = 1)) k2 else .er 10 k1 | .er y a => .er y a) := by
      rw [Hid, HRR.out, gtyF]
      simp only [HE.out]
      cases byF bs k1 <;> rfl
    have HB5 := Lib.hid (HB0.out.step hst5 hRX)
    have HS5 := Lib.hid hs5
    have HT5 := Lib.hid (HT0.out.trans hst5)
    rw [← hR]
    clear hs5 hst5 HB0 HT0 hR HH HRR HE
    have x1 := HS5.out.c1
    go_wp2_with fail
    refine (byte_any _ X S D c bs k1 HS5.out).mono ?_
    intro e w6 hp
    cases hr : byF bs k1 with
    | er y a =>
      have HE := Lib.hid hr
      rw [hr] at hp
      clear hr
      obtain ⟨rfl, ht⟩ := hp
      refine ⟨rfl, ?_⟩
      rw [show RR = Rs.er y a from (by rw [HRR2.out]; simp only [HE.out])]
      exact ⟨rfl, HT5.out.trans ht⟩
    | ok m k2 =>
      have HE := Lib.hid hr
      have hml := byF_lt hr
      rw [hr] at hp
      clear hr
      obtain ⟨rfl, hs6, hst6⟩ := hp
      have HB6 := Lib.hid (HB5.out.step hst6 hRX)
      have HS6 := Lib.hid hs6
      have HT6 := Lib.hid (HT5.out.trans hst6)
      have HRR3 : Hid (RR = if m ≤ 1 then .ok (t, decide (m = 1)) k2 else .er 10 k1) := by
        rw [Hid, HRR2.out]
        simp only [HE.out]
      clear hs6 hst6 HB5 HS5 HT5 x1 HRR2 HE
      by_cases hm : m ≤ 1
      rotate_left
      · have hb2 : decide ((m : Int) ≤ 1) = false := decide_eq_false (by omega)
        go_wp2_with fail
        refine (unless_err _ _ _).mono ?_
        rintro e wS ⟨rfl, hS⟩
        refine ⟨rfl, ?_⟩
        rw [HRR3.out, if_neg hm]
        exact ⟨rfl, HT6.out.trans' hS (fun _ hf => hf.elim)⟩
      have HRR4 : Hid (RR = .ok (t, decide (m = 1)) k2) := by rw [Hid, HRR3.out, if_pos hm]
      have hb3 : (m : Int) ≤ 1 := by omega
      have hb2 : decide ((m : Int) ≤ 1) = true := decide_eq_true hb3
      have hb1 : ((m : Int) == 1) = decide (m = 1) := by
        by_cases h1 : m = 1
        · subst h1; rfl
        · rw [decide_eq_false h1]; simp; omega
      obtain ⟨mu, hmu⟩ : ∃ mu, mu = decide (m = 1) := ⟨_, rfl⟩
      rw [← hmu] at HRR4 hb1
      clear hmu HRR3
      go_wp2_with fail
      refine (aunless_ok _ _ _).mono ?_
      rintro e wS ⟨rfl, hwS⟩
      subst wS
      have hone : (#[.int .u8 (t : Int), .bool mu] : Array Value).all (·.oneCell') = true := by simp [Value.oneCell']
      have hbl := HB6.out
      go_wp2_with (refine wpList_store_rowTo rfl 66 _ _ rfl rfl R #[.int .u8 (t : Int), .bool mu] rfl rfl 66 _ hbl rfl rfl hone ?_)
      have r0 := (hbl.row #[.int .u8 (t : Int), .bool mu]).cell 0
      have r1 := (hbl.row #[.int .u8 (t : Int), .bool mu]).cell 1
      simp at r0 r1
      have hSF := HS6.out.step (Step.setRow (F := fun j => j = R) Step.refl (g := R) (.inl rfl) #[.int .u8 (t : Int), .bool mu]) (Ne.symm hRX) hRS
      have hTF := HT6.out.setRow (g := R) (.inr hRw) #[.int .u8 (t : Int), .bool mu]
      refine bodyPost_ret (v := .agg #[.int .u8 (t : Int), .bool mu]) (by simp [results, Try.results165, go_sem, r0, r1]) rfl ?_
      rw [HRR4.out]
      exact ⟨rfl, hSF, hTF⟩

def Gl.sh (x : Gl) : Gl := ⟨x.t, x.op, x.a, x.b, x.n, 0, x.m, none⟩
/-- One global, as the program reads it. -/
def gloF (bs : List UInt8) (k : Nat) : Rs Gl := match gtyF bs k with
  | .er y a => .er y a
  | .ok t k1 => match creF bs k1 with
    | .er y a => .er y a
    | .ok x k2 => .ok ⟨t.1, x.1, x.2, 0, 0, 0, t.2, none⟩ k2
def GloR (X : Nat) (S : Nat → Prop) (D : Option Addr) (c : Nat) (bs : List UInt8) (w : World) (r : Rs Gl) (e : Ending) (w' : World) : Prop :=
  match r with
  | .ok x k => ∃ x' : Gl, x'.sh = x ∧ e = .returned (.agg (gloX x'.t x'.m x'.op x'.a x'.b x'.A x'.n x'.c)) ∧ Scn w' X S D c bs k ∧ Step (fun i => i = X) w w'
  | .er y a => e = .panicked (stopP (y : Int) (a : Int)) ∧ Step (fun i => i = X) w w'
theorem gloF_zero {bs : List UInt8} (k : Nat) (x : Gl) (k' : Nat) (h : gloF bs k = .ok x k') : x.b = 0 ∧ x.n = 0 := by
  rw [gloF] at h
  split at h
  · cases h
  · split at h
    · cases h
    · injection h with h1 h2
      subst h1
      exact ⟨rfl, rfl⟩

set_option maxRecDepth 100000 in
set_option maxHeartbeats 3200000 in
theorem gget_any (w : World) (X : Nat) (S : Nat → Prop) (D : Option Addr) (c : Nat) (bs : List UInt8) (k : Nat) (h : Scn w X S D c bs k) :
    Calls Try.prog 76 #[.pointer (some ⟨X, 0, none⟩)] w (GloR X S D c bs w (gloF bs k)) := by
  have hxl := h.lt
  have hlow := h.low
  have HH := Lib.hid h
  obtain ⟨RR, hRR⟩ : ∃ RR, RR = gloF bs k := ⟨_, rfl⟩
  rw [← hRR]
  have HRR := Lib.hid hRR
  clear h hRR
  have HB0 := Lib.hid (Blk.new w 115 (gloC 0 false 0 0))
  have HT0 := Lib.hid ((Step.refl (F := fun i => i = X)).alloc (w := w) (.cells (gloC 0 false 0 0) 115))
  obtain ⟨R, hR⟩ : ∃ R, R = w.heap.size := ⟨_, rfl⟩
  have hRX : R ≠ X := by omega
  have hRw : w.heap.size ≤ R := by omega
  have hRS : ∀ j, S j → j ≠ R := fun j hj => by have := hlow j hj; omega
  rw [← hR] at HB0
  go_enter Try.func76, Try.ntmps76
  go_wp2_with fail
  refine (global_any _ X S D c bs k (HH.out.alloc _)).mono ?_
  intro e w5 hp
  cases hr : gtyF bs k with
  | er y a =>
    have HE := Lib.hid hr
    rw [hr] at hp
    clear hr
    obtain ⟨rfl, ht⟩ := hp
    refine ⟨rfl, ?_⟩
    rw [show RR = Rs.er y a from (by rw [HRR.out, gloF]; simp only [HE.out])]
    exact ⟨rfl, HT0.out.trans ht⟩
  | ok t k1 =>
    have HE := Lib.hid hr
    rw [hr] at hp
    clear hr
    obtain ⟨t, mu⟩ := t
    obtain ⟨rfl, hs5, hst5⟩ := hp
    have HRR2 : Hid (RR = match creF bs k1 with | .er y a => .er y a | .ok x k2 => .ok ⟨t, x.1, x.2, 0, 0, 0, mu, none⟩ k2) := by
      rw [Hid, HRR.out, gloF]
      simp only [HE.out]
    have HB5 := Lib.hid (HB0.out.step hst5 hRX)
    have HS5 := Lib.hid hs5
    have HT5 := Lib.hid (HT0.out.trans hst5)
    rw [← hR]
    clear hs5 hst5 HB0 HT0 hR HH HRR HE
    simp only
    go_wp2_with fail
    refine (cread_any _ X S D c bs k1 HS5.out).mono ?_
    intro e w6 hp
    cases hr : creF bs k1 with
    | er y a =>
      have HE := Lib.hid hr
      rw [hr] at hp
      clear hr
      obtain ⟨rfl, ht⟩ := hp
      refine ⟨rfl, ?_⟩
      rw [show RR = Rs.er y a from (by rw [HRR2.out]; simp only [HE.out])]
      exact ⟨rfl, HT5.out.trans ht⟩
    | ok x k2 =>
      have HE := Lib.hid hr
      rw [hr] at hp
      clear hr
      obtain ⟨op, a⟩ := x
      obtain ⟨DI, cI, rfl, hs6, hst6⟩ := hp
      have HB6 := Lib.hid (HB5.out.step hst6 hRX)
      have HS6 := Lib.hid hs6
      have HT6 := Lib.hid (HT5.out.trans hst6)
      have HRR3 : Hid (RR = .ok ⟨t, op, a, 0, 0, 0, mu, none⟩ k2) := by
        rw [Hid, HRR2.out]
        simp only [HE.out]
      clear hs6 hst6 HB5 HS5 HT5 HRR2 HE
      simp only [insC]
      have hone : (#[.int .u8 (t : Int), .bool mu, .int .u8 (op : Int), .int .u64 (a : Int), .int .u64 0, .slice DI 0 cI] : Array Value).all (·.oneCell') = true := by simp [Value.oneCell']
      have hbl := HB6.out
      go_wp2_with (refine wpList_store_rowTo rfl 115 _ _ rfl rfl R #[.int .u8 (t : Int), .bool mu, .int .u8 (op : Int), .int .u64 (a : Int), .int .u64 0, .slice DI 0 cI] rfl rfl 115 _ hbl rfl rfl hone ?_)
      have r0 := (hbl.row #[.int .u8 (t : Int), .bool mu, .int .u8 (op : Int), .int .u64 (a : Int), .int .u64 0, .slice DI 0 cI]).cell 0
      have r1 := (hbl.row #[.int .u8 (t : Int), .bool mu, .int .u8 (op : Int), .int .u64 (a : Int), .int .u64 0, .slice DI 0 cI]).cell 1
      have r2 := (hbl.row #[.int .u8 (t : Int), .bool mu, .int .u8 (op : Int), .int .u64 (a : Int), .int .u64 0, .slice DI 0 cI]).cell 2
      have r3 := (hbl.row #[.int .u8 (t : Int), .bool mu, .int .u8 (op : Int), .int .u64 (a : Int), .int .u64 0, .slice DI 0 cI]).cell 3
      have r4 := (hbl.row #[.int .u8 (t : Int), .bool mu, .int .u8 (op : Int), .int .u64 (a : Int), .int .u64 0, .slice DI 0 cI]).cell 4
      have r5 := (hbl.row #[.int .u8 (t : Int), .bool mu, .int .u8 (op : Int), .int .u64 (a : Int), .int .u64 0, .slice DI 0 cI]).cell 5
      simp at r0 r1 r2 r3 r4 r5
      have hSF := HS6.out.step (Step.setRow (F := fun j => j = R) Step.refl (g := R) (.inl rfl) #[.int .u8 (t : Int), .bool mu, .int .u8 (op : Int), .int .u64 (a : Int), .int .u64 0, .slice DI 0 cI]) (Ne.symm hRX) hRS
      have hTF := HT6.out.setRow (g := R) (.inr hRw) #[.int .u8 (t : Int), .bool mu, .int .u8 (op : Int), .int .u64 (a : Int), .int .u64 0, .slice DI 0 cI]
      refine bodyPost_ret (v := .agg #[.int .u8 (t : Int), .bool mu, .int .u8 (op : Int), .int .u64 (a : Int), .int .u64 0, .slice DI 0 cI]) (by simp [results, Try.results76, go_sem, r0, r1, r2, r3, r4, r5]) rfl ?_
      rw [HRR3.out]
      exact ⟨⟨t, op, a, 0, 0, cI, mu, DI⟩, rfl, rfl, hSF, hTF⟩
end Go.Proofs.Ytfemeendkjcffaa
/-! globals: GetAll of any bytes. -/
namespace Go.Proofs.Ytfemeendkjcffaa
open Go.RowKit

def endG (bs : List UInt8) (k : Nat) : Rs Unit := if k < bs.length then .er 14 k else .ok () k
theorem endG_eq {bs : List UInt8} {k : Nat} (h : k ≤ bs.length) : endF bs k = endG bs k := by
  rw [endF, endG]
  by_cases h1 : k = bs.length
  · rw [if_pos h1, if_neg (by omega)]
  · rw [if_neg h1, if_pos (by omega)]
/-- The end behind a list. -/
def finG {α : Type} (bs : List UInt8) (r : Rs (List α)) : Rs (List α) := match r with
  | .er y a => .er y a
  | .ok l k => match endG bs k with
    | .er y a => .er y a
    | .ok _ k2 => .ok l k2
def allF {α : Type} (f : Nat → Rs α) (bs : List UInt8) (k : Nat) : Rs (List α) := match cntF bs k with
  | .er y a => .er y a
  | .ok n k1 => finG bs (readN f n k1)
theorem cntF_lt {bs : List UInt8} {k v k' : Nat} (h : cntF bs k = .ok v k') : v ≤ 10000 := by
  rw [cntF] at h
  split at h
  · split at h
    · injection h with h1 h2
      omega
    · cases h
  · cases h
theorem allF_all {α : Type} {f : Nat → Rs α} {p : α → Prop} (hf : ∀ k x k', f k = .ok x k' → p x) {bs : List UInt8} {k k' : Nat} {l : List α} (h : allF f bs k = .ok l k') : l.length ≤ 10000 ∧ ∀ x ∈ l, p x := by
  rw [allF] at h
  cases hc : cntF bs k with
  | er y a => rw [hc] at h; cases h
  | ok n k1 =>
    rw [hc] at h
    dsimp only at h
    unfold finG at h
    cases hn : readN f n k1 with
    | er y a => rw [hn] at h; cases h
    | ok m k2 =>
      rw [hn] at h
      dsimp only at h
      cases he : endG bs k2 with
      | er y a => rw [he] at h; cases h
      | ok u k3 =>
        rw [he] at h
        injection h with h1 h2
        subst h1
        obtain ⟨h3, h4⟩ := readN_all hf n k1 m k2 hn
        exact ⟨by rw [h3]; exact cntF_lt hc, h4⟩
def GlsR (X : Nat) (w : World) (r : Rs (List Gl)) (e : Ending) (w' : World) : Prop :=
  match r with
  | .ok l _ => ∃ (l' : List Gl) (D' : Option Addr) (c' : Nat), l'.map Gl.sh = l ∧ e = .returned (.slice D' l'.length c') ∧ w'.ownsRow w.heap.size 115 6 (.slice D' l'.length c') l'.length (gls l') ∧ Step (fun i => i = X) w w'
  | .er y a => e = .panicked (stopP (y : Int) (a : Int)) ∧ Step (fun i => i = X) w w'

set_option maxRecDepth 100000 in
set_option maxHeartbeats 6400000 in
theorem ggall_any (w : World) (X : Nat) (S : Nat → Prop) (D : Option Addr) (c : Nat) (bs : List UInt8) (k : Nat) (h : Scn w X S D c bs k) :
    Calls Try.prog 82 #[.pointer (some ⟨X, 0, none⟩)] w (GlsR X w (allF (gloF bs) bs k)) := by
  have hxl := h.lt
  have hlow := h.low
  have HH := Lib.hid h
  obtain ⟨RR, hRR⟩ : ∃ RR, RR = allF (gloF bs) bs k := ⟨_, rfl⟩
  rw [← hRR]
  have HRR := Lib.hid hRR
  clear h hRR
  go_enter Try.func82, Try.ntmps82
  go_wp2_with fail
  refine (count_any _ X S D c bs k HH.out).mono ?_
  intro e w9 hp
  cases hr : cntF bs k with
  | er y a =>
    have HE := Lib.hid hr
    rw [hr] at hp
    clear hr
    obtain ⟨rfl, ht⟩ := hp
    refine ⟨rfl, ?_⟩
    rw [show RR = Rs.er y a from (by rw [HRR.out, allF]; simp only [HE.out])]
    exact ⟨rfl, ht⟩
  | ok n k1 =>
    have HE := Lib.hid hr
    have hnl := cntF_lt hr
    rw [hr] at hp
    clear hr
    obtain ⟨rfl, hs, ht⟩ := hp
    have HT9 := Lib.hid ht
    have HO9 : Hid (w9.ownsRow w.heap.size 115 6 (.slice none 0 0) 0 (gls [])) := World.ownsRow_nil _ _ _ _
    have HK9 := Lib.hid hs
    have HR9 : Hid (RR = finG bs (preR (([] : List Gl).map Gl.sh) (readN (gloF bs) (n - 0) k1))) := by
      rw [Hid, HRR.out, allF]
      simp only [HE.out]
      rw [List.map_nil, preR_nil, Nat.sub_zero]
    clear hs ht HH HE HRR
    go_wp2_with fail
    go_loopw [3, 6] (fun ov iv wr => ∃ (j c2 : Nat) (D2 : Option Addr) (kj : Nat) (lj : List Gl), j ≤ n ∧ ov = .slice D2 j c2 ∧ iv = .int .i64 (j : Int) ∧ Hid (lj.length = j) ∧ Hid (RR = finG bs (preR (lj.map Gl.sh) (readN (gloF bs) (n - j) kj))) ∧
      Hid (wr.ownsRow w.heap.size 115 6 (.slice D2 j c2) j (gls lj)) ∧ Hid (Scn wr X S D c bs kj) ∧ Hid (Step (fun i => i = X) w wr)) (fun _ iv _ => n + 1 - (intOf iv).toNat)
    case atStart => exact ⟨0, 0, none, k1, [], by omega, rfl, rfl, rfl, HR9, HO9, HK9, HT9⟩
    case round =>
      obtain ⟨j, c2, D2, kj, lj, hj, rfl, rfl, HLj, HRj, HOj, HKj, HTj⟩ := hrel
      clear HO9 HK9 HR9
      by_cases hlt : j < n
      · have g1 : (j : Int) < (n : Int) := by omega
        have hw1 := IntWalk.i64_in ((j : Int) + 1) (by omega)
        have hDX : blkOf D2 ≠ some X := by rw [← ownBlock_slice D2 j c2]; exact own_tag HOj.out HKj.out.blk (by decide)
        have hDge : ∀ q, blkOf D2 = some q → w.heap.size ≤ q := fun q hq => own_ge HOj.out q (by rw [ownBlock_slice]; exact hq)
        have hnj : n - j = (n - (j + 1)) + 1 := by omega
        rw [hnj] at HRj
        clear hnj
        go_wp2_with fail
        refine (gget_any _ X S D c bs kj HKj.out).mono ?_
        intro e wa hp
        cases hr : gloF bs kj with
        | er y a =>
          have HE := Lib.hid hr
          rw [hr] at hp
          clear hr
          obtain ⟨rfl, hta⟩ := hp
          refine ⟨rfl, ?_⟩
          rw [show RR = Rs.er y a from (by rw [HRj.out, readN_er HE.out]; rfl)]
          exact ⟨rfl, HTj.out.trans hta⟩
        | ok x k2 =>
          have HE := Lib.hid hr
          rw [hr] at hp
          clear hr
          obtain ⟨⟨t, op, a, b, m, cc, mu, B⟩, hsh, rfl, hsa, hta⟩ := hp
          simp only [gloX]
          have HR2 : Hid (RR = finG bs (preR ((lj ++ [(⟨t, op, a, b, m, cc, mu, B⟩ : Gl)]).map Gl.sh) (readN (gloF bs) (n - (j + 1)) k2))) := by
            rw [Hid, HRj.out, readN_ok HE.out, List.map_append, List.map_cons, List.map_nil, hsh]
          have hOa : Hid ((wa.alloc (.cells #[.int .u8 (t : Int), .bool mu, .int .u8 (op : Int), .int .u64 (a : Int), .int .u64 (b : Int), .slice B m cc] 115)).ownsRow w.heap.size 115 6 (.slice D2 j c2) j (gls lj)) :=
            (own_step HOj.out hta (fun q hq e => hDX (by rw [← ownBlock_slice D2 j c2, hq, e]))).alloc _
          have HKa := Lib.hid (hsa.alloc (.cells #[.int .u8 (t : Int), .bool mu, .int .u8 (op : Int), .int .u64 (a : Int), .int .u64 (b : Int), .slice B m cc] 115))
          have HTa := Lib.hid ((HTj.out.trans hta).alloc (.cells #[.int .u8 (t : Int), .bool mu, .int .u8 (op : Int), .int .u64 (a : Int), .int .u64 (b : Int), .slice B m cc] 115))
          have hrn := reads_new wa #[Value.int .u8 (t : Int), .bool mu, .int .u8 (op : Int), .int .u64 (a : Int), .int .u64 (b : Int), .slice B m cc] 115 6 1 rfl
          have hone : ∀ u ∈ #[Value.int .u8 (t : Int), .bool mu, .int .u8 (op : Int), .int .u64 (a : Int), .int .u64 (b : Int), .slice B m cc].toList, u.oneCell' = true := by simp [Value.oneCell']
          have hm : j + 1 ≤ maxLen := by unfold maxLen; omega
          have hsz := HTa.out.size
          clear hsa hta hsh HE HRj
          go_wp2_with (at_builtin; refine wpList_append_src _ rfl _ _ (by rfl) E_gl (by rfl) hOa.out (by rfl) hrn hone hm (by omega) hsz ?_; intro D3 c3 w3 hown hgrow hat)
          have HK3 := Lib.hid (HKa.out.step (F := fun q => blkOf D2 = some q) (Step.refl.grown hgrow (fun q hq => .inl hq)) hDX (fun q hq hd => by have := hlow q hq; have := hDge q hd; omega))
          have HT3 := Lib.hid (HTa.out.grown hgrow (fun q hq => .inr (hDge q hq)))
          have hus : gls lj ++ #[Value.int .u8 (t : Int), .bool mu, .int .u8 (op : Int), .int .u64 (a : Int), .int .u64 (b : Int), .slice B m cc].toList = gls (lj ++ [(⟨t, op, a, b, m, cc, mu, B⟩ : Gl)]) := by rw [gls_append]; rfl
          rw [hus] at hown
          have HL3 : Hid ((lj ++ [(⟨t, op, a, b, m, cc, mu, B⟩ : Gl)]).length = j + 1) := by rw [Hid, List.length_append, HLj.out]; rfl
          go_roundw
          case rel => exact ⟨j + 1, c3, D3, k2, _, by omega, rfl, by rw [Int.natCast_add]; rfl, HL3, HR2, hown, HK3, HT3⟩
          case measure => simp [intOf]; omega
      · obtain rfl : j = n := by omega
        rw [Nat.sub_self, readN_zero] at HRj
        go_wp2_with fail
        refine (end_any _ X S D c bs kj HKj.out).mono ?_
        rw [endG_eq HKj.out.le]
        intro e wz hp
        cases hr : endG bs kj with
        | er y a =>
          have HE := Lib.hid hr
          rw [hr] at hp
          clear hr
          obtain ⟨rfl, hta⟩ := hp
          refine ⟨rfl, ?_⟩
          rw [show RR = Rs.er y a from (by rw [HRj.out, preR, finG]; simp only [HE.out])]
          exact ⟨rfl, HTj.out.trans hta⟩
        | ok u k3 =>
          have HE := Lib.hid hr
          rw [hr] at hp
          clear hr
          obtain ⟨rfl, hsa, hta⟩ := hp
          have HR3 : Hid (RR = .ok (lj.map Gl.sh) k3) := by
            rw [Hid, HRj.out, preR, finG, List.append_nil]
            simp only [HE.out]
          clear HRj HE
          go_wp2_with fail
          go_ret
          rw [HR3.out]
          have hOz := own_step HOj.out hta (fun q hq e => own_tag HOj.out HKj.out.blk (by decide) (by rw [hq, e]))
          rw [← HLj.out] at hOz ⊢
          exact ⟨lj, D2, c2, rfl, rfl, hOz, HTj.out.trans hta⟩
end Go.Proofs.Ytfemeendkjcffaa
/-! The reference: ValType, Global, End; creelref12.Get, GetAll of any bytes. -/
namespace Go.Proofs.Ytfemeendkjcffaa
open Go.RowKit

def rendS (bs : List UInt8) (s : Rst) : Rst := if s.y = 0 ∧ s.k < bs.length then failS 14 s.k s else s
def rgtS (bs : List UInt8) (s : Rst) : Rst := if (rbyF bs (rvtyF bs s).2).2.y = 0 ∧ 1 < (rbyF bs (rvtyF bs s).2).1 then failS 10 (rvtyF bs s).2.k (rbyF bs (rvtyF bs s).2).2 else (rbyF bs (rvtyF bs s).2).2
def rgtyF (bs : List UInt8) (s : Rst) : (Nat × Bool) × Rst := (if (rgtS bs s).y = 0 then ((rvtyF bs s).1, decide ((rbyF bs (rvtyF bs s).2).1 = 1)) else (0, false), rgtS bs s)
def rgloF (bs : List UInt8) (s : Rst) : Gl × Rst := (⟨(rgtyF bs s).1.1, (rcgF bs (rgtyF bs s).2).1.1, (rcgF bs (rgtyF bs s).2).1.2.1, (rcgF bs (rgtyF bs s).2).1.2.2.1, (rcgF bs (rgtyF bs s).2).1.2.2.2, 0, (rgtyF bs s).1.2, none⟩, (rcgF bs (rgtyF bs s).2).2)
def rallF {α : Type} (g : Rst → α × Rst) (bs : List UInt8) (s : Rst) : List α × Rst :=
  (if (rendS bs (stN g (rcntF bs s).1 (rcntF bs s).2).2).y = 0 then (stN g (rcntF bs s).1 (rcntF bs s).2).1 else [], rendS bs (stN g (rcntF bs s).1 (rcntF bs s).2).2)
theorem rcntF_le (bs : List UInt8) (s : Rst) : (rcntF bs s).1 ≤ 10000 := by
  rw [rcntF]
  dsimp only
  split
  · rename_i h
    rw [rcntS] at h
    split at h
    · rw [failS] at h
      split at h
      · cases h
      · rename_i h1
        exact absurd h h1
    · omega
  · exact Nat.zero_le _
theorem rvtyF_lt (bs : List UInt8) (s : Rst) : (rvtyF bs s).1 < 256 := rbyF_lt bs s

set_option maxRecDepth 100000 in
set_option maxHeartbeats 1600000 in
theorem rvtype_walk (w : World) (X : Nat) (S : Nat → Prop) (D : Option Addr) (c : Nat) (bs : List UInt8) (s : Rst) (h : Rf w X S D c bs s) :
    Calls Try.prog 207 #[.pointer (some ⟨X, 0, none⟩)] w (Rg X S D c bs w (.int .u8 ((rvtyF bs s).1 : Int)) (rvtyF bs s).2) := by
  have HN := Lib.hid (rbyte_walk w X S D c bs s h)
  have x1 := h.c1
  have hlt := rbyF_lt bs s
  rw [rvtyF]
  clear h
  generalize rbyF bs s = r at HN hlt ⊢
  obtain ⟨v, s1⟩ := r
  obtain ⟨k, y0, a0⟩ := s
  simp only at HN hlt x1 ⊢
  have HV : Hid (∀ w, Calls Try.prog 148 #[.int .i64 (v : Int)] w fun e w' => e = .returned (.int .i64 (valF v : Nat)) ∧ w' = w) := fun w => rvalue_walk w v (by omega)
  have hw : IntKind.u8.wrap (v : Int) = (v : Int) := IntWalk.u8_in _ (by omega)
  by_cases hv : valF v = 0
  · rw [if_neg (fun hh => hh.2 hv)]
    rw [hv] at HV
    obtain ⟨k1, y1, a1⟩ := s1
    clear hv
    by_cases hy : y1 = 0
    · subst hy
      go_enter Try.func207, Try.ntmps207
      go_wp2_with fail
      refine HN.out.mono ?_
      rintro e w5 ⟨rfl, hS5, hT5⟩
      have x2 := hS5.c2
      simp only at x2
      go_wp2_with fail
      refine (HV.out _).mono ?_
      rintro e w6 ⟨rfl, hw6⟩
      subst w6
      go_wp2_with fail
      go_ret
      exact ⟨rfl, hS5, hT5⟩
    · have hy' : ((y1 : Int) == 0) = false := by simp; omega
      clear hy
      go_enter Try.func207, Try.ntmps207
      go_wp2_with fail
      refine HN.out.mono ?_
      rintro e w5 ⟨rfl, hS5, hT5⟩
      have x2 := hS5.c2
      simp only at x2
      go_wp2_with fail
      go_ret
      exact ⟨rfl, hS5, hT5⟩
  · obtain ⟨r, hr⟩ : ∃ r, r = valF v := ⟨_, rfl⟩
    rw [← hr] at HV hv ⊢
    have hrb : ((r : Int) != 0) = true := bne_iff_ne.2 (by omega)
    obtain ⟨k1, y1, a1⟩ := s1
    clear hr
    simp only
    by_cases hy : y1 = 0
    · subst hy
      rw [if_pos ⟨rfl, hv⟩]
      have HF : Hid (∀ w', Rf w' X S D c bs ⟨k1, 0, a1⟩ → Calls Try.prog 146 #[.pointer (some ⟨X, 0, none⟩), .int .i64 (r : Int), .int .i64 (k : Int)] w' (Rg X S D c bs w' (.tuple #[]) (failS r k ⟨k1, 0, a1⟩))) := fun w' h' => rfail_walk w' X S D c bs _ h' r k
      generalize failS r k ⟨k1, 0, a1⟩ = s2 at HF ⊢
      clear hv
      go_enter Try.func207, Try.ntmps207
      go_wp2_with fail
      refine HN.out.mono ?_
      rintro e w5 ⟨rfl, hS5, hT5⟩
      have x2 := hS5.c2
      simp only at x2
      go_wp2_with fail
      refine (HV.out _).mono ?_
      rintro e w6 ⟨rfl, hw6⟩
      subst w6
      go_wp2_with fail
      refine (HV.out _).mono ?_
      rintro e w6 ⟨rfl, hw6⟩
      subst w6
      go_wp2_with fail
      refine (HF.out _ hS5).mono ?_
      rintro e w6 ⟨rfl, hS6, hT6⟩
      go_wp2_with fail
      go_ret
      exact ⟨rfl, hS6, hT5.trans hT6⟩
    · rw [if_neg (fun hh => hy hh.1)]
      have hy' : ((y1 : Int) == 0) = false := by simp; omega
      clear hy hv
      go_enter Try.func207, Try.ntmps207
      go_wp2_with fail
      refine HN.out.mono ?_
      rintro e w5 ⟨rfl, hS5, hT5⟩
      have x2 := hS5.c2
      simp only at x2
      go_wp2_with fail
      go_ret
      exact ⟨rfl, hS5, hT5⟩

set_option maxRecDepth 100000 in
set_option maxHeartbeats 1600000 in
theorem rend_walk (w : World) (X : Nat) (S : Nat → Prop) (D : Option Addr) (c : Nat) (bs : List UInt8) (s : Rst) (h : Rf w X S D c bs s) :
    Calls Try.prog 172 #[.pointer (some ⟨X, 0, none⟩)] w (Rg X S D c bs w (.tuple #[]) (rendS bs s)) := by
  have HS := Lib.hid h
  have x0 := h.c0
  have x1 := h.c1
  have x2 := h.c2
  have hle := h.le
  have hsh := h.short
  clear h
  obtain ⟨k, y0, a0⟩ := s
  simp only at x1 x2 hle
  by_cases hy : y0 = 0
  · subst hy
    by_cases hk : k < bs.length
    · rw [rendS, if_pos ⟨rfl, hk⟩]
      have g1 : (k : Int) < (bs.length : Int) := by omega
      have g1' : decide ((k : Int) < (bs.length : Int)) = true := decide_eq_true g1
      simp only
      go_enter Try.func172, Try.ntmps172
      go_wp2_with fail
      go_quiet (fail)
      have HS1 := Lib.hid (HS.out.quiet (Step.refl.drewN nq))
      have hT1 : Step (fun i => i = X) w (w.drewN nq) := Step.refl.drewN nq
      obtain ⟨W, hW⟩ : ∃ W, W = w.drewN nq := ⟨_, rfl⟩
      rw [← hW] at HS1 hT1 ⊢
      have HT1 := Lib.hid hT1
      clear hT1 hW HS x0 x1 x2
      have x1 := HS1.out.c1
      simp only at x1
      go_wp2_with fail
      refine (rfail_walk _ X S D c bs _ HS1.out 14 k).mono ?_
      rintro e w5 ⟨rfl, hS5, hT5⟩
      go_wp2_with fail
      go_end0
      exact ⟨rfl, hS5, HT1.out.trans hT5⟩
    · rw [rendS, if_neg (fun hh => hk hh.2)]
      have g1' : decide ((k : Int) < (bs.length : Int)) = false := decide_eq_false (by omega)
      go_enter Try.func172, Try.ntmps172
      go_wp2_with fail
      go_quiet (fail)
      go_wp2_with fail
      go_end0
      exact ⟨rfl, HS.out.quiet (Step.refl.drewN _), Step.refl.drewN _⟩
  · rw [rendS, if_neg (fun hh => hy hh.1)]
    have hy' : ((y0 : Int) == 0) = false := by simp; omega
    clear hy
    go_enter Try.func172, Try.ntmps172
    go_wp2_with fail
    go_quiet (fail)
    go_wp2_with fail
    go_end0
    exact ⟨rfl, HS.out.quiet (Step.refl.drewN _), Step.refl.drewN _⟩

set_option maxRecDepth 100000 in
set_option maxHeartbeats 3200000 in
theorem rgtype_walk (w : World) (X : Nat) (S : Nat → Prop) (D : Option Addr) (c : Nat) (bs : List UInt8) (s : Rst) (h : Rf w X S D c bs s) :
    Calls Try.prog 200 #[.pointer (some ⟨X, 0, none⟩)] w (Rg X S D c bs w (.agg #[.int .u8 ((rgtyF bs s).1.1 : Int), .bool (rgtyF bs s).1.2]) (rgtyF bs s).2) := by
  have hvl := rvtyF_lt bs s
  have hbl := rbyF_lt bs (rvtyF bs s).2
  have HN : Hid (∀ w', Rf w' X S D c bs s → Calls Try.prog 207 #[.pointer (some ⟨X, 0, none⟩)] w' (Rg X S D c bs w' (.int .u8 ((rvtyF bs s).1 : Int)) (rvtyF bs s).2)) := fun w' h' => rvtype_walk w' X S D c bs s h'
  have HM : Hid (∀ w', Rf w' X S D c bs (rvtyF bs s).2 → Calls Try.prog 147 #[.pointer (some ⟨X, 0, none⟩)] w' (Rg X S D c bs w' (.int .i64 ((rbyF bs (rvtyF bs s).2).1 : Int)) (rbyF bs (rvtyF bs s).2).2)) := fun w' h' => rbyte_walk w' X S D c bs _ h'
  rw [rgtyF]
  obtain ⟨s3, hs3⟩ : ∃ s3, s3 = rgtS bs s := ⟨_, rfl⟩
  rw [← hs3]
  obtain ⟨VV, hVV⟩ : ∃ VV, VV = (if s3.y = 0 then ((rvtyF bs s).1, decide ((rbyF bs (rvtyF bs s).2).1 = 1)) else (0, false)) := ⟨_, rfl⟩
  rw [← hVV]
  rw [rgtS] at hs3
  have hxl := h.lt
  have hlow := h.low
  have HH := Lib.hid h
  clear h
  have HB0 := Lib.hid (Blk.new w 66 #[.int .u8 0, .bool false])
  have HT0 := Lib.hid ((Step.refl (F := fun i => i = X)).alloc (w := w) (.cells #[.int .u8 0, .bool false] 66))
  obtain ⟨R, hR⟩ : ∃ R, R = w.heap.size := ⟨_, rfl⟩
  have hRX : R ≠ X := by omega
  have hRw : w.heap.size ≤ R := by omega
  have hRS : ∀ j, S j → j ≠ R := fun j hj => by have := hlow j hj; omega
  rw [← hR] at HB0
  generalize rbyF bs (rvtyF bs s).2 = q at HM hbl hs3 hVV
  generalize rvtyF bs s = p at HN HM hvl hs3 hVV
  obtain ⟨t, s1⟩ := p
  obtain ⟨m, s2⟩ := q
  obtain ⟨v1, v2⟩ := VV
  obtain ⟨k2, y2, a2⟩ := s2
  obtain ⟨k1, y1, a1⟩ := s1
  simp only at HN HM hvl hbl hs3 hVV ⊢
  have HS3 := Lib.hid hs3
  have HVV := Lib.hid hVV
  clear hs3 hVV
  have hb1 : ((m : Int) == 1) = decide (m = 1) := by
    by_cases h1 : m = 1
    · subst h1; rfl
    · rw [decide_eq_false h1]; simp; omega
  generalize decide (m = 1) = mu at hb1 HVV
  go_enter Try.func200, Try.ntmps200
  go_wp2_with fail
  refine (HN.out _ (HH.out.alloc _)).mono ?_
  rintro e w5 ⟨rfl, hs5, ht5⟩
  have HB5 := Lib.hid (HB0.out.step ht5 hRX)
  have HS5 := Lib.hid hs5
  have HT5 := Lib.hid (HT0.out.trans ht5)
  rw [← hR]
  clear hs5 ht5 HB0 HT0 hR HH HN
  have x1 := HS5.out.c1
  go_wp2_with fail
  refine (HM.out _ HS5.out).mono ?_
  rintro e w6 ⟨rfl, hs6, ht6⟩
  have HB6 := Lib.hid (HB5.out.step ht6 hRX)
  have HS6 := Lib.hid hs6
  have HT6 := Lib.hid (HT5.out.trans ht6)
  clear hs6 ht6 HB5 HS5 HT5 HM x1
  have x2 := HS6.out.c2
  simp only at x2
  by_cases hc : y2 = 0 ∧ 1 < m
  · have e3 : s3 = failS 10 k1 ⟨k2, y2, a2⟩ := by rw [HS3.out, if_pos hc]
    obtain ⟨hy2, hm⟩ := hc
    subst hy2
    have hm' : (1 : Int) < (m : Int) := by omega
    have hm2 : decide ((1 : Int) < (m : Int)) = true := decide_eq_true hm'
    go_wp2_with fail
    refine (rfail_walk _ X S D c bs _ HS6.out 10 k1).mono ?_
    rintro e w7 ⟨rfl, hs7, ht7⟩
    rw [← e3] at hs7
    have HB7 := Lib.hid (HB6.out.step ht7 hRX)
    have HS7 := Lib.hid hs7
    have HT7 := Lib.hid (HT6.out.trans ht7)
    clear hs7 ht7 HB6 HS6 HT6 x2 e3 HS3
    obtain ⟨k3, y3, a3⟩ := s3
    have x2 := HS7.out.c2
    simp only at x2
    have e4 := HVV.out
    simp only at e4
    clear HVV
    by_cases hy : y3 = 0
    · subst hy
      first | rw [if_pos rfl] at e4 | rw [if_pos trivial] at e4
      injection e4 with e4 e5
      subst e4 e5
      have hone : (#[.int .u8 (v1 : Int), .bool v2] : Array Value).all (·.oneCell') = true := by simp [Value.oneCell']
      have hbl := HB7.out
      go_wp2_with (refine wpList_store_rowTo rfl 66 _ _ rfl rfl R #[.int .u8 (v1 : Int), .bool v2] rfl rfl 66 _ hbl rfl rfl hone ?_)
      have r0 := (hbl.row #[.int .u8 (v1 : Int), .bool v2]).cell 0
      have r1 := (hbl.row #[.int .u8 (v1 : Int), .bool v2]).cell 1
      simp at r0 r1
      have hSF := HS7.out.step (Step.setRow (F := fun j => j = R) Step.refl (g := R) (.inl rfl) #[.int .u8 (v1 : Int), .bool v2]) (Ne.symm hRX) hRS
      have hTF := HT7.out.setRow (g := R) (.inr hRw) #[.int .u8 (v1 : Int), .bool v2]
      refine bodyPost_ret (v := .agg #[.int .u8 (v1 : Int), .bool v2]) (by simp [results, Try.results200, go_sem, r0, r1]) rfl ?_
      exact ⟨rfl, hSF, hTF⟩
    · have hy' : ((y3 : Int) != 0) = true := bne_iff_ne.2 (by omega)
      rw [if_neg hy] at e4
      injection e4 with e4 e5
      subst e4 e5
      have hone : (#[.int .u8 0, .bool false] : Array Value).all (·.oneCell') = true := by simp [Value.oneCell']
      have hbl := HB7.out
      go_wp2_with (refine wpList_store_rowTo rfl 66 _ _ rfl rfl R #[.int .u8 0, .bool false] rfl rfl 66 _ hbl rfl rfl hone ?_)
      have r0 := (hbl.row #[.int .u8 0, .bool false]).cell 0
      have r1 := (hbl.row #[.int .u8 0, .bool false]).cell 1
      simp at r0 r1
      have hSF := HS7.out.step (Step.setRow (F := fun j => j = R) Step.refl (g := R) (.inl rfl) #[.int .u8 0, .bool false]) (Ne.symm hRX) hRS
      have hTF := HT7.out.setRow (g := R) (.inr hRw) #[.int .u8 0, .bool false]
      refine bodyPost_ret (v := .agg #[.int .u8 0, .bool false]) (by simp [results, Try.results200, go_sem, r0, r1]) rfl ?_
      exact ⟨rfl, hSF, hTF⟩
  · have e3 : s3 = ⟨k2, y2, a2⟩ := by rw [HS3.out, if_neg hc]
    subst e3
    clear HS3
    by_cases hy : y2 = 0
    · subst hy
      have hm' : ¬ (1 : Int) < (m : Int) := by omega
      have hm2 : decide ((1 : Int) < (m : Int)) = false := decide_eq_false hm'
      have e4 := HVV.out
      first | rw [if_pos rfl] at e4 | rw [if_pos trivial] at e4
      injection e4 with e4 e5
      subst e4 e5
      clear HVV
      have hone : (#[.int .u8 (v1 : Int), .bool v2] : Array Value).all (·.oneCell') = true := by simp [Value.oneCell']
      have hbl := HB6.out
      go_wp2_with (refine wpList_store_rowTo rfl 66 _ _ rfl rfl R #[.int .u8 (v1 : Int), .bool v2] rfl rfl 66 _ hbl rfl rfl hone ?_)
      have r0 := (hbl.row #[.int .u8 (v1 : Int), .bool v2]).cell 0
      have r1 := (hbl.row #[.int .u8 (v1 : Int), .bool v2]).cell 1
      simp at r0 r1
      have hSF := HS6.out.step (Step.setRow (F := fun j => j = R) Step.refl (g := R) (.inl rfl) #[.int .u8 (v1 : Int), .bool v2]) (Ne.symm hRX) hRS
      have hTF := HT6.out.setRow (g := R) (.inr hRw) #[.int .u8 (v1 : Int), .bool v2]
      refine bodyPost_ret (v := .agg #[.int .u8 (v1 : Int), .bool v2]) (by simp [results, Try.results200, go_sem, r0, r1]) rfl ?_
      exact ⟨rfl, hSF, hTF⟩
    · have hy0 : ((y2 : Int) == 0) = false := by simp; omega
      have hy' : ((y2 : Int) != 0) = true := bne_iff_ne.2 (by omega)
      have e4 := HVV.out
      rw [if_neg hy] at e4
      injection e4 with e4 e5
      subst e4 e5
      clear HVV
      have hone : (#[.int .u8 0, .bool false] : Array Value).all (·.oneCell') = true := by simp [Value.oneCell']
      have hbl := HB6.out
      go_wp2_with (refine wpList_store_rowTo rfl 66 _ _ rfl rfl R #[.int .u8 0, .bool false] rfl rfl 66 _ hbl rfl rfl hone ?_)
      have r0 := (hbl.row #[.int .u8 0, .bool false]).cell 0
      have r1 := (hbl.row #[.int .u8 0, .bool false]).cell 1
      simp at r0 r1
      have hSF := HS6.out.step (Step.setRow (F := fun j => j = R) Step.refl (g := R) (.inl rfl) #[.int .u8 0, .bool false]) (Ne.symm hRX) hRS
      have hTF := HT6.out.setRow (g := R) (.inr hRw) #[.int .u8 0, .bool false]
      refine bodyPost_ret (v := .agg #[.int .u8 0, .bool false]) (by simp [results, Try.results200, go_sem, r0, r1]) rfl ?_
      exact ⟨rfl, hSF, hTF⟩


def RglQ (X : Nat) (S : Nat → Prop) (D : Option Addr) (c : Nat) (bs : List UInt8) (w : World) (q : Gl × Rst) (e : Ending) (w' : World) : Prop :=
  ∃ x' : Gl, x'.sh = q.1 ∧ e = .returned (.agg (gloX x'.t x'.m x'.op x'.a x'.b x'.A x'.n x'.c)) ∧ Rf w' X S D c bs q.2 ∧ Step (fun i => i = X) w w'

set_option maxRecDepth 100000 in
set_option maxHeartbeats 3200000 in
theorem rgget_walk (w : World) (X : Nat) (S : Nat → Prop) (D : Option Addr) (c : Nat) (bs : List UInt8) (s : Rst) (h : Rf w X S D c bs s) :
    Calls Try.prog 171 #[.pointer (some ⟨X, 0, none⟩)] w (RglQ X S D c bs w (rgloF bs s)) := by
  have HN : Hid (∀ w', Rf w' X S D c bs s → Calls Try.prog 200 #[.pointer (some ⟨X, 0, none⟩)] w' (Rg X S D c bs w' (.agg #[.int .u8 ((rgtyF bs s).1.1 : Int), .bool (rgtyF bs s).1.2]) (rgtyF bs s).2)) := fun w' h' => rgtype_walk w' X S D c bs s h'
  have HM : Hid (∀ w', Rf w' X S D c bs (rgtyF bs s).2 → Calls Try.prog 51 #[.pointer (some ⟨X, 0, none⟩)] w' (CgQ X S D c bs w' (rcgF bs (rgtyF bs s).2))) := fun w' h' => rcget_walk w' X S D c bs _ h'
  rw [rgloF]
  have hxl := h.lt
  have hlow := h.low
  have HH := Lib.hid h
  clear h
  have HB0 := Lib.hid (Blk.new w 115 (gloC 0 false 0 0))
  have HT0 := Lib.hid ((Step.refl (F := fun i => i = X)).alloc (w := w) (.cells (gloC 0 false 0 0) 115))
  obtain ⟨R, hR⟩ : ∃ R, R = w.heap.size := ⟨_, rfl⟩
  have hRX : R ≠ X := by omega
  have hRw : w.heap.size ≤ R := by omega
  have hRS : ∀ j, S j → j ≠ R := fun j hj => by have := hlow j hj; omega
  rw [← hR] at HB0
  generalize rcgF bs (rgtyF bs s).2 = q at HM ⊢
  generalize rgtyF bs s = p at HN HM ⊢
  obtain ⟨⟨t, mu⟩, s1⟩ := p
  obtain ⟨⟨op, a, b, n⟩, s2⟩ := q
  simp only [CgQ] at HN HM ⊢
  go_enter Try.func171, Try.ntmps171
  go_wp2_with fail
  refine (HN.out _ (HH.out.alloc _)).mono ?_
  rintro e w5 ⟨rfl, hs5, ht5⟩
  have HB5 := Lib.hid ((HB0.out.step ht5 hRX).alloc (.cells #[.int .u8 (t : Int), .bool mu] 66))
  have HS5 := Lib.hid (hs5.alloc (.cells #[.int .u8 (t : Int), .bool mu] 66))
  have HT5 := Lib.hid ((HT0.out.trans ht5).alloc (.cells #[.int .u8 (t : Int), .bool mu] 66))
  have HG5 := Lib.hid (Blk.new w5 66 #[.int .u8 (t : Int), .bool mu])
  have hXT : X < w5.heap.size := hs5.lt
  rw [← hR]
  clear hs5 ht5 HB0 HT0 hR HH HN
  go_wp2_with fail
  obtain ⟨T, hT⟩ : ∃ T, T = w5.heap.size := ⟨_, rfl⟩
  obtain ⟨V, hV⟩ : ∃ V, V = w5.alloc (.cells #[.int .u8 (t : Int), .bool mu] 66) := ⟨_, rfl⟩
  rw [← hT] at HG5 hXT ⊢
  rw [← hV] at HB5 HS5 HT5 HG5 ⊢
  have hTX : T ≠ X := by omega
  clear hT hV
  have y0 := HG5.out.cell 0
  have y1 := HG5.out.cell 1
  simp at y0 y1
  have d0 := cls_cell (F := fun i => i = X) (w0 := V) y0 hTX
  have d1 := cls_cell (F := fun i => i = X) (w0 := V) y1 hTX
  clear y0 y1
  refine Mix.wp_region_mix [2, 4] [2] (Step (fun i => i = X) V) (by kernel_rfl) (by kernel_rfl) Step.refl.drew (fun hcls => ?_)
  refine Mix.wpL_reads 2 (by rfl) ?_
  simp only [List.take_succ_cons, List.drop_succ_cons, List.take_zero, List.drop_zero]
  repeat (go_big_quiet_step (fail))
  refine wpQuiet_nil ?_
  refine Mix.wpL_op (by rfl) (fun K hK => ?_)
  go_simp
  refine (HM.out _ (HS5.out.quiet Step.refl.drew)).mono ?_
  rintro e wd ⟨DG, cG, rfl, hs, ht⟩
  have hTd : Step (fun i => i = X) V wd := Step.refl.drew.trans ht
  have HTd := Lib.hid hTd
  have HB6 := Lib.hid (HB5.out.step hTd hRX)
  have HS6 := Lib.hid hs
  have HT6 := Lib.hid (HT5.out.trans hTd)
  simp only [insC]
  refine hK _ _ (fun hlt => Mix.cl HTd.out) ?_
  clear hK K hTd hs ht HB5 HS5 HT5 HM
  refine Mix.wpL_reads 1 (by rfl) ?_
  simp only [List.take_succ_cons, List.drop_succ_cons, List.take_zero, List.drop_zero]
  repeat (go_big_quiet_step (fail))
  refine wpQuiet_nil ?_
  have hone : (#[.int .u8 (t : Int), .bool mu, .int .u8 (op : Int), .int .u64 (a : Int), .int .u64 (b : Int), .slice DG n cG] : Array Value).all (·.oneCell') = true := by simp [Value.oneCell']
  have hbl := HB6.out
  refine Mix.wpL_op (by rfl) (fun K hK => ?_)
  rw [if_pos (by first | rfl | simp [Region.wanted])]
  refine wp_store_row 115 _ _ rfl R #[.int .u8 (t : Int), .bool mu, .int .u8 (op : Int), .int .u64 (a : Int), .int .u64 (b : Int), .slice DG n cG] rfl rfl 115 _ hbl rfl rfl hone ?_
  refine hK _ _ (fun hlt => absurd hlt (by decide)) ?_
  clear hK K
  refine Mix.wpL_end ?_
  go_wp2_with fail
  have r0 := (hbl.row #[.int .u8 (t : Int), .bool mu, .int .u8 (op : Int), .int .u64 (a : Int), .int .u64 (b : Int), .slice DG n cG]).cell 0
  have r1 := (hbl.row #[.int .u8 (t : Int), .bool mu, .int .u8 (op : Int), .int .u64 (a : Int), .int .u64 (b : Int), .slice DG n cG]).cell 1
  have r2 := (hbl.row #[.int .u8 (t : Int), .bool mu, .int .u8 (op : Int), .int .u64 (a : Int), .int .u64 (b : Int), .slice DG n cG]).cell 2
  have r3 := (hbl.row #[.int .u8 (t : Int), .bool mu, .int .u8 (op : Int), .int .u64 (a : Int), .int .u64 (b : Int), .slice DG n cG]).cell 3
  have r4 := (hbl.row #[.int .u8 (t : Int), .bool mu, .int .u8 (op : Int), .int .u64 (a : Int), .int .u64 (b : Int), .slice DG n cG]).cell 4
  have r5 := (hbl.row #[.int .u8 (t : Int), .bool mu, .int .u8 (op : Int), .int .u64 (a : Int), .int .u64 (b : Int), .slice DG n cG]).cell 5
  simp at r0 r1 r2 r3 r4 r5
  have hSF := HS6.out.step (Step.setRow (F := fun j => j = R) Step.refl (g := R) (.inl rfl) #[.int .u8 (t : Int), .bool mu, .int .u8 (op : Int), .int .u64 (a : Int), .int .u64 (b : Int), .slice DG n cG]) (Ne.symm hRX) hRS
  have hTF := HT6.out.setRow (g := R) (.inr hRw) #[.int .u8 (t : Int), .bool mu, .int .u8 (op : Int), .int .u64 (a : Int), .int .u64 (b : Int), .slice DG n cG]
  refine bodyPost_ret (v := .agg #[.int .u8 (t : Int), .bool mu, .int .u8 (op : Int), .int .u64 (a : Int), .int .u64 (b : Int), .slice DG n cG]) (by simp [results, Try.results171, go_sem, r0, r1, r2, r3, r4, r5]) rfl ?_
  exact ⟨⟨t, op, a, b, n, cG, mu, DG⟩, rfl, rfl, hSF, hTF⟩


def RlsQ (X : Nat) (S : Nat → Prop) (D : Option Addr) (c : Nat) (bs : List UInt8) (w : World) (q : List Gl × Rst) (e : Ending) (w' : World) : Prop :=
  ∃ (l' : List Gl) (D' : Option Addr) (c' : Nat), l'.map Gl.sh = q.1 ∧ e = .returned (.slice D' l'.length c') ∧ w'.ownsRow w.heap.size 115 6 (.slice D' l'.length c') l'.length (gls l') ∧ Rf w' X S D c bs q.2 ∧ Step (fun i => i = X) w w'

set_option maxRecDepth 100000 in
set_option maxHeartbeats 6400000 in
theorem rggall_walk (w : World) (X : Nat) (S : Nat → Prop) (D : Option Addr) (c : Nat) (bs : List UInt8) (s : Rst) (h : Rf w X S D c bs s) :
    Calls Try.prog 83 #[.pointer (some ⟨X, 0, none⟩)] w (RlsQ X S D c bs w (rallF (rgloF bs) bs s)) := by
  have hxl := h.lt
  have hlow := h.low
  have HH := Lib.hid (rcount_walk w X S D c bs s h)
  have hnl := rcntF_le bs s
  clear h
  rw [rallF]
  generalize rcntF bs s = p at HH hnl ⊢
  obtain ⟨n, s1⟩ := p
  simp only at HH hnl ⊢
  obtain ⟨G, hG⟩ : ∃ G, G = stN (rgloF bs) n s1 := ⟨_, rfl⟩
  rw [← hG]
  obtain ⟨L, s2⟩ := G
  simp only
  obtain ⟨Z, hZ⟩ : ∃ Z, Z = rendS bs s2 := ⟨_, rfl⟩
  rw [← hZ]
  have HZ := Lib.hid hZ
  obtain ⟨LL, hLL⟩ : ∃ LL, LL = (if Z.y = 0 then L else []) := ⟨_, rfl⟩
  rw [← hLL]
  have HLL := Lib.hid hLL
  clear hLL
  have HR9 : Hid ((L, s2) = (([] : List Gl).map Gl.sh ++ (stN (rgloF bs) (n - 0) s1).1, (stN (rgloF bs) (n - 0) s1).2)) := by rw [Hid, hG, Nat.sub_zero]; rfl
  clear hG hZ
  go_enter Try.func83, Try.ntmps83
  go_wp2_with fail
  refine HH.out.mono ?_
  rintro e w9 ⟨rfl, hs, ht⟩
  have HT9 := Lib.hid ht
  have HO9 : Hid (w9.ownsRow w.heap.size 115 6 (.slice none 0 0) 0 (gls [])) := World.ownsRow_nil _ _ _ _
  have HK9 := Lib.hid hs
  clear hs ht HH
  go_wp2_with fail
  go_loopw [4, 5] (fun ov iv wr => ∃ (j c2 : Nat) (D2 : Option Addr) (sj : Rst) (lj : List Gl), j ≤ n ∧ ov = .slice D2 j c2 ∧ iv = .int .i64 (j : Int) ∧ Hid (lj.length = j) ∧ Hid ((L, s2) = (lj.map Gl.sh ++ (stN (rgloF bs) (n - j) sj).1, (stN (rgloF bs) (n - j) sj).2)) ∧
    Hid (wr.ownsRow w.heap.size 115 6 (.slice D2 j c2) j (gls lj)) ∧ Hid (Rf wr X S D c bs sj) ∧ Hid (Step (fun i => i = X) w wr)) (fun _ iv _ => n + 1 - (intOf iv).toNat)
  case atStart => exact ⟨0, 0, none, s1, [], by omega, rfl, rfl, rfl, HR9, HO9, HK9, HT9⟩
  case round =>
    obtain ⟨j, c2, D2, sj, lj, hj, rfl, rfl, HLj, HRj, HOj, HKj, HTj⟩ := hrel
    clear HO9 HK9 HR9 HT9
    have x2 := HKj.out.c2
    by_cases hlt : j < n
    · have g1 : (j : Int) < (n : Int) := by omega
      by_cases hy : sj.y = 0
      · have hw1 := IntWalk.i64_in ((j : Int) + 1) (by omega)
        rw [hy] at x2
        have HR2 : Hid ((L, s2) = ((lj.map Gl.sh ++ [(rgloF bs sj).1]) ++ (stN (rgloF bs) (n - (j + 1)) (rgloF bs sj).2).1, (stN (rgloF bs) (n - (j + 1)) (rgloF bs sj).2).2)) := by
          rw [Hid, HRj.out, show n - j = (n - (j + 1)) + 1 by omega]
          exact stN_go _ _ _ hy _
        have HN := Lib.hid (rgget_walk _ X S D c bs sj HKj.out)
        clear hy HRj
        generalize rgloF bs sj = p at HN HR2
        obtain ⟨x, s3⟩ := p
        simp only [RglQ] at HN HR2
        have hDX : blkOf D2 ≠ some X := by rw [← ownBlock_slice D2 j c2]; exact own_tag HOj.out HKj.out.blk (by decide)
        have hDge : ∀ q, blkOf D2 = some q → w.heap.size ≤ q := fun q hq => own_ge HOj.out q (by rw [ownBlock_slice]; exact hq)
        go_wp2_with fail
        refine HN.out.mono ?_
        rintro e wa ⟨⟨t, op, a, b, m, cc, mu, B⟩, hsh, rfl, hsa, hta⟩
        simp only [gloX]
        rw [← show Gl.sh (⟨t, op, a, b, m, cc, mu, B⟩ : Gl) = x from hsh, show lj.map Gl.sh ++ [Gl.sh (⟨t, op, a, b, m, cc, mu, B⟩ : Gl)] = (lj ++ [(⟨t, op, a, b, m, cc, mu, B⟩ : Gl)]).map Gl.sh by rw [List.map_append]; rfl] at HR2
        have hOa : Hid ((wa.alloc (.cells #[.int .u8 (t : Int), .bool mu, .int .u8 (op : Int), .int .u64 (a : Int), .int .u64 (b : Int), .slice B m cc] 115)).ownsRow w.heap.size 115 6 (.slice D2 j c2) j (gls lj)) :=
          (own_step HOj.out hta (fun q hq e => hDX (by rw [← ownBlock_slice D2 j c2, hq, e]))).alloc _
        have HKa := Lib.hid (hsa.alloc (.cells #[.int .u8 (t : Int), .bool mu, .int .u8 (op : Int), .int .u64 (a : Int), .int .u64 (b : Int), .slice B m cc] 115))
        have HTa := Lib.hid ((HTj.out.trans hta).alloc (.cells #[.int .u8 (t : Int), .bool mu, .int .u8 (op : Int), .int .u64 (a : Int), .int .u64 (b : Int), .slice B m cc] 115))
        have hrn := reads_new wa #[Value.int .u8 (t : Int), .bool mu, .int .u8 (op : Int), .int .u64 (a : Int), .int .u64 (b : Int), .slice B m cc] 115 6 1 rfl
        have hone : ∀ u ∈ #[Value.int .u8 (t : Int), .bool mu, .int .u8 (op : Int), .int .u64 (a : Int), .int .u64 (b : Int), .slice B m cc].toList, u.oneCell' = true := by simp [Value.oneCell']
        have hm : j + 1 ≤ maxLen := by unfold maxLen; omega
        have hsz := HTa.out.size
        clear hsa hta hsh HN x2
        go_wp2_with (at_builtin; refine wpList_append_src _ rfl _ _ (by rfl) E_gl (by rfl) hOa.out (by rfl) hrn hone hm (by omega) hsz ?_; intro D3 c3 w3 hown hgrow hat)
        have HK3 := Lib.hid (HKa.out.step (F := fun q => blkOf D2 = some q) (Step.refl.grown hgrow (fun q hq => .inl hq)) hDX (fun q hq hd => by have := hlow q hq; have := hDge q hd; omega))
        have HT3 := Lib.hid (HTa.out.grown hgrow (fun q hq => .inr (hDge q hq)))
        have hus : gls lj ++ #[Value.int .u8 (t : Int), .bool mu, .int .u8 (op : Int), .int .u64 (a : Int), .int .u64 (b : Int), .slice B m cc].toList = gls (lj ++ [(⟨t, op, a, b, m, cc, mu, B⟩ : Gl)]) := by rw [gls_append]; rfl
        rw [hus] at hown
        have HL3 : Hid ((lj ++ [(⟨t, op, a, b, m, cc, mu, B⟩ : Gl)]).length = j + 1) := by rw [Hid, List.length_append, HLj.out]; rfl
        go_roundw
        case rel => exact ⟨j + 1, c3, D3, s3, _, by omega, rfl, by rw [Int.natCast_add]; rfl, HL3, HR2, hown, HK3, HT3⟩
        case measure => simp [intOf]; omega
      · have hy' : ((sj.y : Int) == 0) = false := by simp; omega
        have HRL : Hid (L = lj.map Gl.sh ∧ Z = rendS bs sj) := by
          have h5 := HRj.out
          rw [stN_stop _ _ _ hy, List.append_nil] at h5
          exact ⟨(Prod.mk.inj h5).1, by rw [HZ.out, (Prod.mk.inj h5).2]⟩
        go_wp2_with fail
        refine (rend_walk _ X S D c bs sj HKj.out).mono ?_
        rw [← HRL.out.2]
        rintro e wz ⟨rfl, hsz, htz⟩
        have hDX : blkOf D2 ≠ some X := by rw [← ownBlock_slice D2 j c2]; exact own_tag HOj.out HKj.out.blk (by decide)
        have hOz := own_step HOj.out htz (fun q hq e => hDX (by rw [← ownBlock_slice D2 j c2, hq, e]))
        have HRl := Lib.hid HRL.out.1
        clear HRL HRj HZ
        obtain ⟨k3, y3, a3⟩ := Z
        have x2 := hsz.c2
        simp only at x2
        by_cases hy3 : y3 = 0
        · have e4 : LL = lj.map Gl.sh := by rw [HLL.out, if_pos hy3, HRl.out]
          subst hy3
          go_wp2_with fail
          go_ret
          rw [← HLj.out] at hOz ⊢
          exact ⟨lj, D2, c2, e4.symm, rfl, hOz, hsz, HTj.out.trans htz⟩
        · have hy4 : ((y3 : Int) != 0) = true := bne_iff_ne.2 (by omega)
          have e4 : LL = [] := by rw [HLL.out, if_neg hy3]
          clear hy3
          go_wp2_with fail
          go_ret
          exact ⟨[], none, 0, e4.symm, rfl, World.ownsRow_nil _ _ _ _, hsz, HTj.out.trans htz⟩
    · obtain rfl : j = n := by omega
      rw [Nat.sub_self] at HRj
      have HRL : Hid (L = lj.map Gl.sh ∧ Z = rendS bs sj) := by
        have h5 := HRj.out
        rw [stN_zero, List.append_nil] at h5
        exact ⟨(Prod.mk.inj h5).1, by rw [HZ.out, (Prod.mk.inj h5).2]⟩
      go_wp2_with fail
      refine (rend_walk _ X S D c bs sj HKj.out).mono ?_
      rw [← HRL.out.2]
      rintro e wz ⟨rfl, hsz, htz⟩
      have hDX : blkOf D2 ≠ some X := by rw [← ownBlock_slice D2 j c2]; exact own_tag HOj.out HKj.out.blk (by decide)
      have hOz := own_step HOj.out htz (fun q hq e => hDX (by rw [← ownBlock_slice D2 j c2, hq, e]))
      have HRl := Lib.hid HRL.out.1
      clear HRL HRj HZ
      clear x2
      obtain ⟨k3, y3, a3⟩ := Z
      have x2 := hsz.c2
      simp only at x2
      by_cases hy3 : y3 = 0
      · have e4 : LL = lj.map Gl.sh := by rw [HLL.out, if_pos hy3, HRl.out]
        subst hy3
        go_wp2_with fail
        go_ret
        rw [← HLj.out] at hOz ⊢
        exact ⟨lj, D2, c2, e4.symm, rfl, hOz, hsz, HTj.out.trans htz⟩
      · have hy4 : ((y3 : Int) != 0) = true := bne_iff_ne.2 (by omega)
        have e4 : LL = [] := by rw [HLL.out, if_neg hy3]
        clear hy3
        go_wp2_with fail
        go_ret
        exact ⟨[], none, 0, e4.symm, rfl, World.ownsRow_nil _ _ _ _, hsz, HTj.out.trans htz⟩
end Go.Proofs.Ytfemeendkjcffaa
/-! The reference's lists answer as the program's: the plain law. -/
namespace Go.Proofs.Ytfemeendkjcffaa
open Go.RowKit

theorem rvty_tel (bs : List UInt8) (k a : Nat) : Tel (vtyF bs k) id a (rvtyF bs ⟨k, 0, a⟩) := by
  have h := rby_tel bs k a
  rw [vtyF, rvtyF]
  cases hr : byF bs k with
  | ok t k1 =>
    rw [hr] at h
    rw [show rbyF bs ⟨k, 0, a⟩ = (t, ⟨k1, 0, a⟩) from h]
    dsimp only
    by_cases hv : valF t = 0
    · rw [if_pos hv, if_neg (fun hh => hh.2 hv)]
      rfl
    · rw [if_neg hv, if_pos ⟨rfl, hv⟩]
      exact ⟨hv, rfl, rfl⟩
  | er y b =>
    rw [hr] at h
    obtain ⟨h1, h2, h3⟩ := h
    have h0 : ¬ (rbyF bs ⟨k, 0, a⟩).2.y = 0 := by rw [h2]; exact h1
    rw [if_neg (fun hh => h0 hh.1)]
    exact ⟨h1, h2, h3⟩
theorem rgty_tel (bs : List UInt8) (k a : Nat) : Tel (gtyF bs k) id a (rgtyF bs ⟨k, 0, a⟩) := by
  have h := rvty_tel bs k a
  rw [gtyF, rgtyF, rgtS]
  cases hr : vtyF bs k with
  | ok t k1 =>
    rw [hr] at h
    rw [show rvtyF bs ⟨k, 0, a⟩ = (t, ⟨k1, 0, a⟩) from h]
    dsimp only
    have h2 := rby_tel bs k1 a
    cases hb : byF bs k1 with
    | ok m k2 =>
      rw [hb] at h2
      rw [show rbyF bs ⟨k1, 0, a⟩ = (m, ⟨k2, 0, a⟩) from h2]
      dsimp only
      by_cases hm : m ≤ 1
      · have hm' : ¬ (True ∧ 1 < m) := fun hh => by have := hh.2; omega
        rw [if_pos hm]
        simp only [if_neg hm']
        rfl
      · have hm' : True ∧ 1 < m := ⟨trivial, by omega⟩
        rw [if_neg hm]
        simp only [if_pos hm']
        exact ⟨by decide, rfl, rfl⟩
    | er y b =>
      rw [hb] at h2
      obtain ⟨g1, g2, g3⟩ := h2
      have h0 : ¬ (rbyF bs ⟨k1, 0, a⟩).2.y = 0 := by rw [g2]; exact g1
      have h4 : ¬ ((rbyF bs ⟨k1, 0, a⟩).2.y = 0 ∧ 1 < (rbyF bs ⟨k1, 0, a⟩).1) := fun hh => h0 hh.1
      simp only [if_neg h4]
      exact ⟨g1, g2, g3⟩
  | er y b =>
    rw [hr] at h
    obtain ⟨h1, h2, h3⟩ := h
    have h0 : ¬ (rvtyF bs ⟨k, 0, a⟩).2.y = 0 := by rw [h2]; exact h1
    rw [rby_stop _ _ h0]
    have h4 : ¬ ((rvtyF bs ⟨k, 0, a⟩).2.y = 0 ∧ 1 < 0) := fun hh => h0 hh.1
    simp only [if_neg h4]
    exact ⟨h1, h2, h3⟩
theorem rcgF_stop (bs : List UInt8) (s : Rst) (h : ¬ s.y = 0) : (rcgF bs s).2 = s := by
  have h1 : rgetF bs s = ((0, 0, 0, []), s) := by rw [rgetF, rby_stop bs s h, if_neg h]
  rw [rcgF, h1]
  dsimp only
  rw [if_neg (fun hh => h hh.1), tailQ_stop _ _ _ h]
theorem rglo_tel (bs : List UInt8) (k a : Nat) : Tel (gloF bs k) id a (rgloF bs ⟨k, 0, a⟩) := by
  have h := rgty_tel bs k a
  rw [gloF, rgloF]
  cases hr : gtyF bs k with
  | ok t k1 =>
    rw [hr] at h
    rw [show rgtyF bs ⟨k, 0, a⟩ = (t, ⟨k1, 0, a⟩) from h]
    dsimp only
    have h2 := rcget_tel bs k1 a
    cases hb : creF bs k1 with
    | ok x k2 =>
      rw [hb] at h2
      rw [show rcgF bs ⟨k1, 0, a⟩ = ((x.1, x.2, 0, 0), ⟨k2, 0, a⟩) from h2]
      rfl
    | er y b =>
      rw [hb] at h2
      obtain ⟨g1, g2, g3, g4⟩ := h2
      exact ⟨g1, g3, g4⟩
  | er y b =>
    rw [hr] at h
    obtain ⟨h1, h2, h3⟩ := h
    have h0 : ¬ (rgtyF bs ⟨k, 0, a⟩).2.y = 0 := by rw [h2]; exact h1
    refine ⟨h1, ?_, ?_⟩
    · show (rcgF bs (rgtyF bs ⟨k, 0, a⟩).2).2.y = y
      rw [rcgF_stop _ _ h0]; exact h2
    · show (rcgF bs (rgtyF bs ⟨k, 0, a⟩).2).2.a = b
      rw [rcgF_stop _ _ h0]; exact h3
theorem rend_stop (bs : List UInt8) (s : Rst) (h : ¬ s.y = 0) : rendS bs s = s := by rw [rendS, if_neg (fun hh => h hh.1)]
theorem rall_tel {α : Type} {f : Nat → Rs α} {g : Rst → α × Rst} (bs : List UInt8) (a : Nat) (h : ∀ k, Tel (f k) id a (g ⟨k, 0, a⟩)) (k : Nat) : Tel (allF f bs k) id a (rallF g bs ⟨k, 0, a⟩) := by
  have h1 := rcnt_tel bs k a
  rw [allF, rallF]
  cases hr : cntF bs k with
  | er y b =>
    rw [hr] at h1
    obtain ⟨g1, g2, g3⟩ := h1
    have h0 : ¬ (rcntF bs ⟨k, 0, a⟩).2.y = 0 := by rw [g2]; exact g1
    rw [stN_stop _ _ _ h0]
    dsimp only
    rw [rend_stop _ _ h0]
    exact ⟨g1, g2, g3⟩
  | ok n k1 =>
    rw [hr] at h1
    rw [show rcntF bs ⟨k, 0, a⟩ = (n, ⟨k1, 0, a⟩) from h1]
    dsimp only
    have h2 := stN_tel a h n k1
    unfold finG
    cases hn : readN f n k1 with
    | er y b =>
      rw [hn] at h2
      obtain ⟨g1, g2, g3⟩ := h2
      have h0 : ¬ (stN g n ⟨k1, 0, a⟩).2.y = 0 := by rw [g2]; exact g1
      rw [rend_stop _ _ h0]
      exact ⟨g1, g2, g3⟩
    | ok l k2 =>
      rw [hn] at h2
      rw [show stN g n ⟨k1, 0, a⟩ = (l, ⟨k2, 0, a⟩) from h2]
      dsimp only
      by_cases hk : k2 < bs.length
      · rw [endG, if_pos hk, show rendS bs ⟨k2, 0, a⟩ = failS 14 k2 ⟨k2, 0, a⟩ by rw [rendS, if_pos ⟨rfl, hk⟩]]
        exact ⟨by decide, rfl, rfl⟩
      · rw [endG, if_neg hk, show rendS bs ⟨k2, 0, a⟩ = ⟨k2, 0, a⟩ by rw [rendS, if_neg (fun hh => hk hh.2)]]
        rfl
end Go.Proofs.Ytfemeendkjcffaa
