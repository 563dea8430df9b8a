/-
  Gl: GlA, GlB, GlC.
-/
import Derived.Test.YtfemeendkjcffaaCrA
import Derived.Test.YtfemeendkjcffaaSaA
import Derived.Test.YtfemeendkjcffaaPw
set_option linter.unusedVariables false
set_option linter.unusedSimpArgs false
/-! globals: Get of what may be. -/
namespace Go.Proofs.Ytfemeendkjcffaa
open Go.RowKit

def gloC (t : Int) (m : Bool) (op a : Int) : Array Value := #[.int .u8 t, .bool m, .int .u8 op, .int .u64 a, .int .u64 0, .slice none 0 0]
theorem gloC_one (t : Int) (m : Bool) (op a : Int) : (gloC t m op a).all (·.oneCell') = true := by simp [gloC, Value.oneCell']
def mutN (m : Bool) : Nat := if m then 1 else 0
def gputL (t : Nat) (m : Bool) (op a : Nat) : List UInt8 := UInt8.ofNat t :: UInt8.ofNat (mutN m) :: cputL op a

set_option maxRecDepth 100000 in
set_option maxHeartbeats 1600000 in
theorem valtype_ok (w : World) (X : Nat) (S : Nat → Prop) (D : Option Addr) (c : Nat) (bs : List UInt8) (k : Nat) (h : Scn w X S D c bs k) (t : Nat) (rest : List UInt8) (ht : t < 256) (hv : valF t = 0) (hd : bs.drop k = UInt8.ofNat t :: rest) :
    Calls Try.prog 198 #[.pointer (some ⟨X, 0, none⟩)] w fun e w' => e = .returned (.int .u8 (t : Int)) ∧ Scn w' X S D c bs (k + 1) ∧ Step (fun i => i = X) w w' := by
  have HV : Hid (∀ w, Calls Try.prog 163 #[.int .u8 (t : Int)] w fun e w' => e = .returned (.int .i64 0) ∧ w' = w) := fun w => by
    have := value_walk w t ht
    rw [hv] at this
    exact this
  have x1 := h.c1
  have HH := Lib.hid h
  clear h hv
  go_enter Try.func198, Try.ntmps198
  go_wp2_with fail
  refine (byte_at HH.out ht hd).mono ?_
  rintro e w5 ⟨rfl, hs, hst⟩
  go_wp2_with fail
  refine (HV.out _).mono ?_
  rintro e wS ⟨rfl, rfl⟩
  go_wp2_with fail
  refine (aunless_ok _ _ _).mono ?_
  rintro e wS ⟨rfl, rfl⟩
  go_wp2_with fail
  go_ret
  exact ⟨rfl, hs, hst⟩

set_option maxRecDepth 100000 in
set_option maxHeartbeats 1600000 in
theorem global_ok (w : World) (X : Nat) (S : Nat → Prop) (D : Option Addr) (c : Nat) (bs : List UInt8) (k : Nat) (h : Scn w X S D c bs k) (t : Nat) (m : Bool) (rest : List UInt8) (ht : t < 256) (hv : valF t = 0) (hd : bs.drop k = UInt8.ofNat t :: UInt8.ofNat (mutN m) :: rest) :
    Calls Try.prog 165 #[.pointer (some ⟨X, 0, none⟩)] w fun e w' => e = .returned (.agg #[.int .u8 (t : Int), .bool m]) ∧ Scn w' X S D c bs (k + 1 + 1) ∧ Step (fun i => i = X) w w' := by
  have hd1 := (drop_cons hd).2.2
  have hxl := h.lt
  have hlow := h.low
  have HH := Lib.hid h
  clear h
  have HB0 := Lib.hid (Blk.new w 66 #[.int .u8 0, .bool false])
  have HT0 := Lib.hid ((Step.refl (F := fun i => i = X)).alloc (w := w) (.cells #[.int .u8 0, .bool false] 66))
  obtain ⟨R, hR⟩ : ∃ R, R = w.heap.size := ⟨_, rfl⟩
  have hRX : R ≠ X := by omega
  have hRw : w.heap.size ≤ R := by omega
  have hRS : ∀ j, S j → j ≠ R := fun j hj => by have := hlow j hj; omega
  rw [← hR] at HB0
  have hb1 : ((mutN m : Int) == 1) = m := by cases m <;> rfl
  have hb2 : decide ((mutN m : Int) ≤ 1) = true := by cases m <;> rfl
  have hb3 : (mutN m : Int) ≤ 1 := by cases m <;> decide
  have hb4 : mutN m < 256 := by cases m <;> decide
  obtain ⟨q, hq⟩ : ∃ q, q = mutN m := ⟨_, rfl⟩
  rw [← hq] at hb1 hb2 hb3 hb4 hd hd1
  clear hq
  go_enter Try.func165, Try.ntmps165
  go_wp2_with fail
  refine (valtype_ok _ X S D c bs k (HH.out.alloc _) t _ ht hv hd).mono ?_
  rintro e w5 ⟨rfl, hs5, hst5⟩
  have HB5 := Lib.hid (HB0.out.step hst5 hRX)
  have HS5 := Lib.hid hs5
  have HT5 := Lib.hid (HT0.out.trans hst5)
  rw [← hR]
  clear hs5 hst5 HB0 HT0 hR HH
  have x1 := HS5.out.c1
  go_wp2_with fail
  refine (byte_at (b := q) HS5.out hb4 hd1).mono ?_
  rintro e w6 ⟨rfl, hs6, hst6⟩
  have HB6 := Lib.hid (HB5.out.step hst6 hRX)
  have HS6 := Lib.hid hs6
  have HT6 := Lib.hid (HT5.out.trans hst6)
  clear hs6 hst6 HB5 HS5 HT5 x1
  go_wp2_with fail
  refine (aunless_ok _ _ _).mono ?_
  rintro e wS ⟨rfl, rfl⟩
  have hone : (#[.int .u8 (t : Int), .bool m] : Array Value).all (·.oneCell') = true := by simp [Value.oneCell']
  have hbl := HB6.out
  go_wp2_with (refine wpList_store_rowTo rfl 66 _ _ rfl rfl R #[.int .u8 (t : Int), .bool m] rfl rfl 66 _ hbl rfl rfl hone ?_)
  have r0 := (hbl.row #[.int .u8 (t : Int), .bool m]).cell 0
  have r1 := (hbl.row #[.int .u8 (t : Int), .bool m]).cell 1
  simp at r0 r1
  have hSF := HS6.out.step (Step.setRow (F := fun j => j = R) Step.refl (g := R) (.inl rfl) #[.int .u8 (t : Int), .bool m]) (Ne.symm hRX) hRS
  have hTF := HT6.out.setRow (g := R) (.inr hRw) #[.int .u8 (t : Int), .bool m]
  exact bodyPost_ret (v := .agg #[.int .u8 (t : Int), .bool m]) (by simp [results, Try.results165, go_sem, r0, r1]) rfl ⟨rfl, hSF, hTF⟩

set_option maxRecDepth 100000 in
set_option maxHeartbeats 3200000 in
theorem gget_ok (w : World) (X : Nat) (S : Nat → Prop) (D : Option Addr) (c : Nat) (bs : List UInt8) (k : Nat) (h : Scn w X S D c bs k) (t : Nat) (m : Bool) (op a : Nat) (rest : List UInt8) (ht : t < 256) (hv : valF t = 0) (hok : ConstOk op a) (ha : a < 18446744073709551616) (hd : bs.drop k = gputL t m op a ++ rest) :
    Calls Try.prog 76 #[.pointer (some ⟨X, 0, none⟩)] w fun e w' => e = .returned (.agg (gloC (t : Int) m (op : Int) (a : Int))) ∧ Scn w' X S D c bs (k + (gputL t m op a).length) ∧ Step (fun i => i = X) w w' := by
  have hd0 : bs.drop k = UInt8.ofNat t :: UInt8.ofNat (mutN m) :: (cputL op a ++ rest) := by rw [hd, gputL]; simp
  have hd1 := (drop_cons (drop_cons hd0).2.2).2.2
  have hlen : k + (gputL t m op a).length = k + 1 + 1 + (cputL op a).length := by rw [gputL]; simp; omega
  rw [hlen]
  have hxl := h.lt
  have hlow := h.low
  have HH := Lib.hid h
  clear h hd hlen
  have HB0 := Lib.hid (Blk.new w 115 (gloC 0 false 0 0))
  have HT0 := Lib.hid ((Step.refl (F := fun i => i = X)).alloc (w := w) (.cells (gloC 0 false 0 0) 115))
  obtain ⟨R, hR⟩ : ∃ R, R = w.heap.size := ⟨_, rfl⟩
  have hRX : R ≠ X := by omega
  have hRw : w.heap.size ≤ R := by omega
  have hRS : ∀ j, S j → j ≠ R := fun j hj => by have := hlow j hj; omega
  rw [← hR] at HB0
  go_enter Try.func76, Try.ntmps76
  go_wp2_with fail
  refine (global_ok _ X S D c bs k (HH.out.alloc _) t m _ ht hv hd0).mono ?_
  rintro e w5 ⟨rfl, hs5, hst5⟩
  have HB5 := Lib.hid (HB0.out.step hst5 hRX)
  have HS5 := Lib.hid hs5
  have HT5 := Lib.hid (HT0.out.trans hst5)
  rw [← hR]
  clear hs5 hst5 HB0 HT0 hR HH
  go_wp2_with fail
  refine (cread_ok _ X S D c bs (k + 1 + 1) HS5.out op a rest hok ha hd1).mono ?_
  rintro e w6 ⟨rfl, hs6, hst6⟩
  have HB6 := Lib.hid (HB5.out.step hst6 hRX)
  have HS6 := Lib.hid hs6
  have HT6 := Lib.hid (HT5.out.trans hst6)
  clear hs6 hst6 HB5 HS5 HT5
  simp only [insC]
  have hone := gloC_one (t : Int) m (op : Int) (a : Int)
  have hbl := HB6.out
  go_wp2_with (refine wpList_store_rowTo rfl 115 _ _ rfl rfl R (gloC (t : Int) m (op : Int) (a : Int)) rfl rfl 115 _ hbl rfl rfl hone ?_)
  have r0 := (hbl.row (gloC (t : Int) m (op : Int) (a : Int))).cell 0
  have r1 := (hbl.row (gloC (t : Int) m (op : Int) (a : Int))).cell 1
  have r2 := (hbl.row (gloC (t : Int) m (op : Int) (a : Int))).cell 2
  have r3 := (hbl.row (gloC (t : Int) m (op : Int) (a : Int))).cell 3
  have r4 := (hbl.row (gloC (t : Int) m (op : Int) (a : Int))).cell 4
  have r5 := (hbl.row (gloC (t : Int) m (op : Int) (a : Int))).cell 5
  simp [gloC] at r0 r1 r2 r3 r4 r5
  have hSF := HS6.out.step (Step.setRow (F := fun j => j = R) Step.refl (g := R) (.inl rfl) (gloC (t : Int) m (op : Int) (a : Int))) (Ne.symm hRX) hRS
  have hTF := HT6.out.setRow (g := R) (.inr hRw) (gloC (t : Int) m (op : Int) (a : Int))
  exact bodyPost_ret (v := .agg (gloC (t : Int) m (op : Int) (a : Int))) (by simp [results, Try.results76, go_sem, gloC, r0, r1, r2, r3, r4, r5]) rfl ⟨rfl, hSF, hTF⟩
end Go.Proofs.Ytfemeendkjcffaa
/-! abort: Value of a global, where nothing is given up; the law's closure; Right, Put, Same. -/
namespace Go.Proofs.Ytfemeendkjcffaa
open Go.RowKit

section
variable (h : FuncId) (caps : Array Value) (w : World) (F : Nat → Prop) (Q : World → World → Prop) (t : Int) (m : Bool) (op a : Int) (hcf : ∀ w : World, (callFunc h caps).run Try.prog w = .ok (.enter h caps) w)
include hcf

set_option maxRecDepth 100000 in
set_option maxHeartbeats 1600000 in
theorem gclo_ok (fb vb : Nat) (H : Calls Try.prog h caps w fun e w' => e = .returned (.agg (gloC t m op a)) ∧ Step F w w' ∧ Q w w') (hf : Blk w fb 122 #[.func (.func h) #[] caps]) (hv : Blk w vb 115 (gloC 0 false 0 0)) (hFv : ¬ F vb) :
    Calls Try.prog 164 #[.pointer (some ⟨fb, 0, none⟩), .pointer (some ⟨vb, 0, none⟩)] w fun e w' => e = .returned (.tuple #[]) ∧ ∃ w1, Step F w w1 ∧ Q w w1 ∧ Blk w' vb 115 (gloC t m op a) ∧ Step (fun k => k = vb) w1 w' := by
  have c0 := hf.cell 0
  simp at c0
  have HH := Lib.hid H
  have HV := Lib.hid hv
  clear H hf hv
  go_enter Try.func164, Try.ntmps164
  go_wp2_with fail
  refine HH.out.mono ?_
  rintro e w1 ⟨rfl, hs, hq⟩
  have HB := HV.out.step hs hFv
  have hone : (gloC t m op a).all (·.oneCell') = true := (by simp [gloC, Value.oneCell'])
  go_wp2_with (refine wpList_store_rowTo rfl 115 _ _ rfl rfl vb (gloC t m op a) rfl rfl 115 _ HB rfl rfl hone ?_)
  go_end0
  exact ⟨rfl, w1, hs, hq, HB.row _, Step.setRow (F := fun k => k = vb) Step.refl (g := vb) (.inl rfl) _⟩

set_option maxRecDepth 100000 in
set_option maxHeartbeats 3200000 in
theorem gvalue_ok (hF : ∀ k, F k → k < w.heap.size) (H : ∀ w', Step (fun _ => False) w w' → Calls Try.prog h caps w' fun e w'' => e = .returned (.agg (gloC t m op a)) ∧ Step F w' w'' ∧ Q w' w'') :
    Calls Try.prog 74 #[.func (.func h) #[] caps] w fun e w' => e = .returned (.tuple #[.agg (gloC t m op a), .agg #[.int .i64 0, .int .i64 0]]) ∧
      ∃ wa wb, Step (fun _ => False) w wa ∧ Step F wa wb ∧ Q wa wb ∧ Step (fun k => w.heap.size ≤ k ∧ k < wa.heap.size) wb w' := by
  have hmf : ∀ (fn : Fn) (first cap : Array Value) (w : World), (Instr.makeFunc fn first cap).run Try.prog w = .ok (.func fn first cap) w := fun _ _ _ _ => rfl
  have HH := Lib.hid H
  clear H
  obtain ⟨v1, hv1⟩ : ∃ v1, v1 = w.alloc (.cells #[.func (.func h) #[] caps] 122) := ⟨_, rfl⟩
  obtain ⟨v2, hv2⟩ : ∃ v2, v2 = v1.alloc (.cells (gloC 0 false 0 0) 115) := ⟨_, rfl⟩
  obtain ⟨v3, hv3⟩ : ∃ v3, v3 = v2.alloc (.cells #[.int .i64 0, .int .i64 0] 85) := ⟨_, rfl⟩
  obtain ⟨v4, hv4⟩ : ∃ v4, v4 = v3.alloc (.cells (gloC 0 false 0 0) 115) := ⟨_, rfl⟩
  obtain ⟨v5, hv5⟩ : ∃ v5, v5 = v4.alloc (.cells #[.int .i64 0, .int .i64 0] 85) := ⟨_, rfl⟩
  have s1 : v1.heap.size = w.heap.size + 1 := by rw [hv1]; simp
  have s2 : v2.heap.size = w.heap.size + 2 := by rw [hv2]; simp [s1]
  have s3 : v3.heap.size = w.heap.size + 3 := by rw [hv3]; simp [s2]
  have s4 : v4.heap.size = w.heap.size + 4 := by rw [hv4]; simp [s3]
  have s5 : v5.heap.size = w.heap.size + 5 := by rw [hv5]; simp [s4]
  have t5 : Step (fun _ => False) w v5 := by
    rw [hv5, hv4, hv3, hv2, hv1]
    exact ((((Step.refl.alloc _).alloc _).alloc _).alloc _).alloc _
  have b1 : Blk v4 w.heap.size 122 #[.func (.func h) #[] caps] := by
    rw [hv4, hv3, hv2, hv1]
    exact (((Blk.new w _ _).alloc _).alloc _).alloc _
  have b2 : Blk v4 (w.heap.size + 1) 115 (gloC 0 false 0 0) := by
    have := ((Blk.new v1 115 (gloC 0 false 0 0)).alloc (.cells #[.int .i64 0, .int .i64 0] 85)).alloc (.cells (gloC 0 false 0 0) 115)
    rw [← hv2, ← hv3, ← hv4, s1] at this
    exact this
  have b3 : Blk v4 (w.heap.size + 2) 85 #[.int .i64 0, .int .i64 0] := by
    have := (Blk.new v2 85 #[.int .i64 0, .int .i64 0]).alloc (.cells (gloC 0 false 0 0) 115)
    rw [← hv3, ← hv4, s2] at this
    exact this
  have b4 : Blk v4 (w.heap.size + 3) 115 (gloC 0 false 0 0) := by
    have := Blk.new v3 115 (gloC 0 false 0 0)
    rw [← hv4, s3] at this
    exact this
  have HO := Lib.hid (out_ok 164 #[.pointer (some ⟨w.heap.size, 0, none⟩), .pointer (some ⟨w.heap.size + 3, 0, none⟩)] v4 (fun k => F k ∨ k = w.heap.size + 3)
    (fun wz => ∃ w1, Step F v5 w1 ∧ Q v5 w1 ∧ Blk wz (w.heap.size + 3) 115 (gloC t m op a) ∧ Step (fun k => k = w.heap.size + 3) w1 wz)
    (by rw [s4]; intro hk; rcases hk with hk | hk; · have := hF _ hk; omega
        · omega) (fun _ => rfl)
    (by
      rw [← hv5]
      refine (gclo_ok h caps v5 F Q t m op a hcf w.heap.size (w.heap.size + 3) (HH.out _ t5) (by rw [hv5]; exact b1.alloc _) (by rw [hv5]; exact b4.alloc _) (fun hk => by have := hF _ hk; omega)).mono ?_
      rintro e wz ⟨rfl, w1, h1, h2, h3, h4⟩
      exact ⟨rfl, (h1.mono fun _ _ hk => .inl hk).trans (h4.mono fun _ _ hk => .inr hk), w1, h1, h2, h3, h4⟩))
  rw [← hv5, s4] at HO
  have HB2 := Lib.hid b2
  have HB3 := Lib.hid b3
  have HE : Hid (v4 = (((w.alloc (.cells #[.func (.func h) #[] caps] 122)).alloc (.cells (gloC 0 false 0 0) 115)).alloc (.cells #[.int .i64 0, .int .i64 0] 85)).alloc (.cells (gloC 0 false 0 0) 115)) := by rw [Hid, hv4, hv3, hv2, hv1]
  have HT5 := Lib.hid t5
  have HF := Lib.hid hF
  have HS5 := Lib.hid s5
  have HV5 := Lib.hid hv5
  clear b1 b2 b3 b4 t5 s1 s2 s3 s4 s5 hv1 hv2 hv3 hv4 hv5 HH hF
  go_enter Try.func74, Try.ntmps74
  go_wp2_with fail
  have HO2 := HO.out
  rw [HE.out] at HO2
  refine HO2.mono ?_
  rintro e w6 ⟨rfl, w1, h1, ⟨wb, g1, g2, g3, g4⟩, h5⟩
  clear HO2 HO
  have HQ := Lib.hid g2
  have HT1 := Lib.hid g1
  have HT2 : Hid (Step (fun k => k = w.heap.size + 3 ∨ k = w.heap.size + 4) wb w6) := (g4.mono fun _ _ hk => .inl hk).trans (h5.mono fun _ _ hk => .inr hk)
  have hns : v5.heap.size ≤ w6.heap.size := Nat.le_trans h1.size h5.size
  have n5 := HS5.out
  have HV6 := Lib.hid ((g3.step h5 (by omega)).alloc (.cells #[.int .i64 0, .int .i64 0] 85))
  have HR6 : Hid (Blk (w6.alloc (.cells #[.int .i64 0, .int .i64 0] 85)) (w.heap.size + 1) 115 (gloC 0 false 0 0)) := by
    have h6 := HB2.out.alloc (.cells #[.int .i64 0, .int .i64 0] 85)
    rw [← HV5.out] at h6
    exact ((h6.step h1 (fun hk => by rcases hk with hk | hk; · have := HF.out _ hk; omega
                                     · omega)).step h5 (by omega)).alloc _
  have HP6 : Hid (Blk (w6.alloc (.cells #[.int .i64 0, .int .i64 0] 85)) (w.heap.size + 2) 85 #[.int .i64 0, .int .i64 0]) := by
    have h6 := HB3.out.alloc (.cells #[.int .i64 0, .int .i64 0] 85)
    rw [← HV5.out] at h6
    exact ((h6.step h1 (fun hk => by rcases hk with hk | hk; · have := HF.out _ hk; omega
                                     · omega)).step h5 (by omega)).alloc _
  have HN6 := Lib.hid (Blk.new w6 85 #[.int .i64 0, .int .i64 0])
  have HT6 := Lib.hid (HT2.out.alloc (.cells #[.int .i64 0, .int .i64 0] 85))
  obtain ⟨W, hW⟩ : ∃ W, W = w6.alloc (.cells #[.int .i64 0, .int .i64 0] 85) := ⟨_, rfl⟩
  obtain ⟨sN, hsN⟩ : ∃ sN, sN = w6.heap.size := ⟨_, rfl⟩
  rw [← hW] at HV6 HR6 HP6 HN6 HT6
  rw [← hsN] at HN6
  have y0 := HN6.out.cell 0
  simp at y0
  rw [hW] at y0
  rw [hsN] at y0
  clear h1 h5 g1 g2 g3 g4 HB2 HB3 HE HT2
  go_wp2_with fail
  rw [← hW, ← hsN]
  have hs6 : w.heap.size + 5 ≤ sN := by omega
  clear y0 hW hsN hns n5
  have y0 := HN6.out.cell 0
  have y1 := HN6.out.cell 1
  have x0 := HV6.out.cell 0
  have x1 := HV6.out.cell 1
  have x2 := HV6.out.cell 2
  have x3 := HV6.out.cell 3
  have x4 := HV6.out.cell 4
  have x5 := HV6.out.cell 5
  simp [gloC] at x0 x1 x2 x3 x4 x5 y0 y1
  obtain ⟨F2, hF2⟩ : ∃ F2 : Nat → Prop, F2 = fun q => q = w.heap.size + 1 ∨ q = w.heap.size + 2 := ⟨_, rfl⟩
  have hFv : ¬ F2 (w.heap.size + 3) := by rw [hF2]; omega
  have hFs : ¬ F2 sN := by rw [hF2]; omega
  have HF2 := Lib.hid hF2
  clear hF2
  have d0 := cls_cell (F := F2) (w0 := W) x0 hFv
  have d1 := cls_cell (F := F2) (w0 := W) x1 hFv
  have d2 := cls_cell (F := F2) (w0 := W) x2 hFv
  have d3 := cls_cell (F := F2) (w0 := W) x3 hFv
  have d4 := cls_cell (F := F2) (w0 := W) x4 hFv
  have d5 := cls_cell (F := F2) (w0 := W) x5 hFv
  have e4 := cls_cell (F := F2) (w0 := W) y0 hFs
  have e5 := cls_cell (F := F2) (w0 := W) y1 hFs
  clear x0 x1 x2 x3 x4 x5 y0 y1
  refine Mix.wp_region_mix [2, 3] [2] (Step F2 W) (by kernel_rfl) (by kernel_rfl) Step.refl.drew (fun hcls => ?_)
  refine Mix.wpL_reads 2 (by rfl) ?_
  simp only [List.take_succ_cons, List.drop_succ_cons, List.take_zero, List.drop_zero]
  repeat (go_big_quiet_step (fail))
  refine wpQuiet_nil ?_
  have z0 := HR6.out.frozen 0
  have z1 := HR6.out.frozen 1
  have z2 := HR6.out.frozen 2
  have z3 := HR6.out.frozen 3
  have z4 := HR6.out.frozen 4
  have z5 := HR6.out.frozen 5
  have r0 := HR6.out.cell 0
  have r1 := HR6.out.cell 1
  have r2 := HR6.out.cell 2
  have r3 := HR6.out.cell 3
  have r4 := HR6.out.cell 4
  have r5 := HR6.out.cell 5
  simp [gloC] at r0 r1 r2 r3 r4 r5
  refine Mix.wpL_op (by rfl) (fun K hK => ?_)
  go_simp
  obtain ⟨W7, hW7⟩ : ∃ W7, W7 = ((((((W.setCell ⟨w.heap.size + 1, 0, none⟩ (.int .u8 t)).setCell ⟨w.heap.size + 1, 1, none⟩ (.bool m)).setCell ⟨w.heap.size + 1, 2, none⟩ (.int .u8 op)).setCell ⟨w.heap.size + 1, 3, none⟩ (.int .u64 a)).setCell ⟨w.heap.size + 1, 4, none⟩ (.int .u64 0)).setCell ⟨w.heap.size + 1, 5, none⟩ (.slice none 0 0)) := ⟨_, rfl⟩
  have HR7 : Hid (Blk W7 (w.heap.size + 1) 115 (gloC t m op a)) := by
    have hq := ((((((HR6.out.set_ 0 (.int .u8 t)).set_ 1 (.bool m)).set_ 2 (.int .u8 op)).set_ 3 (.int .u64 a)).set_ 4 (.int .u64 0)).set_ 5 (.slice none 0 0))
    rw [← hW7] at hq
    simp [gloC] at hq
    exact hq
  have HP7 : Hid (Blk W7 (w.heap.size + 2) 85 #[.int .i64 0, .int .i64 0]) := by
    rw [hW7]
    exact ((((((HP6.out.far (p := ⟨w.heap.size + 1, 0, none⟩) (show w.heap.size + 2 ≠ w.heap.size + 1 by omega) _).far (p := ⟨w.heap.size + 1, 1, none⟩) (show w.heap.size + 2 ≠ w.heap.size + 1 by omega) _).far (p := ⟨w.heap.size + 1, 2, none⟩) (show w.heap.size + 2 ≠ w.heap.size + 1 by omega) _).far (p := ⟨w.heap.size + 1, 3, none⟩) (show w.heap.size + 2 ≠ w.heap.size + 1 by omega) _).far (p := ⟨w.heap.size + 1, 4, none⟩) (show w.heap.size + 2 ≠ w.heap.size + 1 by omega) _).far (p := ⟨w.heap.size + 1, 5, none⟩) (show w.heap.size + 2 ≠ w.heap.size + 1 by omega) _)
  have HT7 : Hid (Step (fun q => q = w.heap.size + 1 ∨ q = w.heap.size + 2) W W7) := by
    rw [hW7]
    exact ((((((Step.refl.setCell (p := ⟨w.heap.size + 1, 0, none⟩) (.inl (.inl rfl)) _).setCell (p := ⟨w.heap.size + 1, 1, none⟩) (.inl (.inl rfl)) _).setCell (p := ⟨w.heap.size + 1, 2, none⟩) (.inl (.inl rfl)) _).setCell (p := ⟨w.heap.size + 1, 3, none⟩) (.inl (.inl rfl)) _).setCell (p := ⟨w.heap.size + 1, 4, none⟩) (.inl (.inl rfl)) _).setCell (p := ⟨w.heap.size + 1, 5, none⟩) (.inl (.inl rfl)) _)
  rw [← hW7]
  refine hK _ _ (fun hlt => Mix.cl (by rw [HF2.out]; exact HT7.out.drew)) ?_
  clear hK K z0 r0 z1 r1 z2 r2 z3 r3 z4 r4 z5 r5 hW7
  have z0 := HP7.out.frozen 0
  have z1 := HP7.out.frozen 1
  have r0 := HP7.out.cell 0
  have r1 := HP7.out.cell 1
  simp at r0 r1
  refine Mix.wpL_op (by rfl) (fun K hK => ?_)
  go_simp
  refine hK _ _ (fun hlt => absurd hlt (by decide)) ?_
  clear hK K
  refine Mix.wpL_end ?_
  obtain ⟨W8, hW8⟩ : ∃ W8, W8 = (W7.setCell ⟨w.heap.size + 2, 0, none⟩ (.int .i64 0)).setCell ⟨w.heap.size + 2, 1, none⟩ (.int .i64 0) := ⟨_, rfl⟩
  have HP8 : Hid (Blk W8 (w.heap.size + 2) 85 #[.int .i64 0, .int .i64 0]) := by
    have hq := (HP7.out.set_ 0 (.int .i64 0)).set_ 1 (.int .i64 0)
    rw [← hW8] at hq
    simp at hq
    exact hq
  have HR8 : Hid (Blk W8 (w.heap.size + 1) 115 (gloC t m op a)) := by
    rw [hW8]
    exact (HR7.out.far (p := ⟨w.heap.size + 2, 0, none⟩) (show w.heap.size + 1 ≠ w.heap.size + 2 by omega) _).far (p := ⟨w.heap.size + 2, 1, none⟩) (show w.heap.size + 1 ≠ w.heap.size + 2 by omega) _
  have HT8 : Hid (Step (fun q => q = w.heap.size + 1 ∨ q = w.heap.size + 2) W W8) := by
    rw [hW8]
    exact (HT7.out.setCell (p := ⟨w.heap.size + 2, 0, none⟩) (.inl (.inr rfl)) _).setCell (p := ⟨w.heap.size + 2, 1, none⟩) (.inl (.inr rfl)) _
  go_wp2_with fail
  rw [← hW8]
  have q0 := HR8.out.cell 0
  have q1 := HR8.out.cell 1
  have q2 := HR8.out.cell 2
  have q3 := HR8.out.cell 3
  have q4 := HR8.out.cell 4
  have q5 := HR8.out.cell 5
  have p4 := HP8.out.cell 0
  have p5 := HP8.out.cell 1
  simp [gloC] at q0 q1 q2 q3 q4 q5 p4 p5
  refine bodyPost_ret (v := .tuple #[.agg (gloC t m op a), .agg #[.int .i64 0, .int .i64 0]]) (by simp [results, Try.results74, go_sem, q0, q1, q2, q3, q4, q5, p4, p5, gloC]) rfl ?_
  refine ⟨rfl, v5, wb, HT5.out, HT1.out, HQ.out, ?_⟩
  have n5 := HS5.out
  refine ((HT6.out.mono fun k _ hk => ?_).trans ((HT8.out.mono fun k _ hk => ?_))).drew
  · exact ⟨by rcases hk with rfl | rfl <;> omega, by rcases hk with rfl | rfl <;> omega⟩
  · exact ⟨by rcases hk with rfl | rfl <;> omega, by rcases hk with rfl | rfl <;> omega⟩
end

set_option maxRecDepth 100000 in
set_option maxHeartbeats 1600000 in
theorem gclosure_ok (w : World) (X sb : Nat) (S : Nat → Prop) (D : Option Addr) (c : Nat) (bs : List UInt8) (k : Nat) (h : Scn w X S D c bs k) (t : Nat) (m : Bool) (op a : Nat) (rest : List UInt8) (ht : t < 256) (hv : valF t = 0) (hok : ConstOk op a) (ha : a < 18446744073709551616) (hd : bs.drop k = gputL t m op a ++ rest) (hsb : Blk w sb 79 #[.pointer (some ⟨X, 0, none⟩)]) :
    Calls Try.prog 75 #[.pointer (some ⟨sb, 0, none⟩)] w fun e w' => e = .returned (.agg (gloC (t : Int) m (op : Int) (a : Int))) ∧ Step (fun i => i = X) w w' ∧ Scn w' X S D c bs (k + (gputL t m op a).length) := by
  have HG := Lib.hid (gget_ok (w.alloc (.cells (gloC 0 false 0 0) 115)) X S D c bs k (h.alloc _) t m op a rest ht hv hok ha hd)
  have s0 := hsb.cell 0
  have hsbl := hsb.lt
  simp at s0
  have hX := h.lt
  have HB := Lib.hid (Blk.new w 115 (gloC 0 false 0 0))
  have hlow := h.low
  have hT0 : Hid (Step (fun i => i = X) w (w.alloc (.cells (gloC 0 false 0 0) 115))) := Step.refl.alloc _
  clear hsb h hd
  go_enter Try.func75, Try.ntmps75
  go_wp2_with fail
  refine HG.out.mono ?_
  rintro e w1 ⟨rfl, hs, hst⟩
  have hB1 := HB.out.step hst (show w.heap.size ≠ X by omega)
  have hone := gloC_one (t : Int) m (op : Int) (a : Int)
  go_wp2_with (refine wpList_store_rowTo rfl 115 _ _ rfl rfl w.heap.size (gloC (t : Int) m (op : Int) (a : Int)) rfl rfl 115 _ hB1 rfl rfl hone ?_)
  have hB2 := hB1.row (gloC (t : Int) m (op : Int) (a : Int))
  have r0 := hB2.cell 0
  have r1 := hB2.cell 1
  have r2 := hB2.cell 2
  have r3 := hB2.cell 3
  have r4 := hB2.cell 4
  have r5 := hB2.cell 5
  simp [gloC] at r0 r1 r2 r3 r4 r5
  have hst2 : Step (fun i => i = w.heap.size) w1 (w1.setRow w.heap.size (gloC (t : Int) m (op : Int) (a : Int))) := Step.setRow (F := fun k => k = w.heap.size) Step.refl (g := w.heap.size) (.inl rfl) _
  refine bodyPost_ret (v := .agg (gloC (t : Int) m (op : Int) (a : Int))) (by simp [results, Try.results75, go_sem, gloC, r0, r1, r2, r3, r4, r5]) rfl ?_
  exact ⟨rfl, (hT0.out.trans hst).setRow (.inr (Nat.le_refl _)) _, hs.step hst2 (by omega) (fun j hj e => by have := hlow j hj; omega)⟩

/-- A global as the law gets it. -/
def gloX (t : Nat) (m : Bool) (op a b : Nat) (A : Option Addr) (n c : Nat) : Array Value := #[.int .u8 (t : Int), .bool m, .int .u8 (op : Int), .int .u64 (a : Int), .int .u64 (b : Int), .slice A n c]
def glbF (t op a b n : Nat) : Nat := if valF t = 0 then crtF op a b n else valF t
theorem glb_zero {t op a b n : Nat} (h : glbF t op a b n = 0) : valF t = 0 ∧ crtF op a b n = 0 := by
  rw [glbF] at h
  split at h
  · rename_i h0
    exact ⟨h0, h⟩
  · rename_i h0
    exact absurd h h0

section
variable (w : World) (t op a b n c : Nat) (m : Bool) (A : Option Addr) (hop : op < 256) (ht : t < 256)
include hop ht

set_option maxRecDepth 100000 in
set_option maxHeartbeats 1600000 in
theorem gright_walk :
    Calls Try.prog 73 #[.agg (gloX t m op a b A n c)] w fun e w' => e = .returned (.int .i64 (glbF t op a b n : Nat)) ∧ Step (fun _ => False) w w' := by
  have HV : Hid (∀ w, Calls Try.prog 163 #[.int .u8 (t : Int)] w fun e w' => e = .returned (.int .i64 (valF t : Nat)) ∧ w' = w) := fun w => value_walk w t ht
  have HR : Hid (∀ w, Calls Try.prog 38 #[.agg #[.int .u8 (op : Int), .int .u64 (a : Int), .int .u64 (b : Int), .slice A n c]] w fun e w' => e = .returned (.int .i64 (crtF op a b n : Nat)) ∧ Step (fun _ => False) w w') := fun w => cright_walk w op a b n c A hop
  have hwt := IntWalk.i64_in (t : Int) (by omega)
  simp only [gloX]
  by_cases h0 : valF t = 0
  · rw [glbF, if_pos h0]
    rw [h0] at HV
    rw [show (((0 : Nat) : Int)) = 0 from rfl] at HV
    clear h0
    go_enter Try.func73, Try.ntmps73
    go_wp2_with fail
    refine (HV.out _).mono ?_
    rintro e wS ⟨rfl, rfl⟩
    go_wp2_with fail
    refine (HR.out _).mono ?_
    rintro e w5 ⟨rfl, hS5⟩
    go_wp2_with fail
    go_ret
    exact ⟨rfl, (Step.refl.alloc _).trans hS5⟩
  · rw [glbF, if_neg h0]
    obtain ⟨r, hr⟩ : ∃ r : Int, r = (valF t : Nat) := ⟨_, rfl⟩
    have hne : ¬ r = 0 := by omega
    have hnb : (r != 0) = true := bne_iff_ne.2 hne
    rw [← hr] at HV ⊢
    clear h0 hr
    go_enter Try.func73, Try.ntmps73
    go_wp2_with fail
    refine (HV.out _).mono ?_
    rintro e wS ⟨rfl, rfl⟩
    go_wp2_with fail
    go_ret
    exact ⟨rfl, Step.refl.alloc _⟩

set_option maxRecDepth 100000 in
set_option maxHeartbeats 1600000 in
theorem grright_walk :
    Calls Try.prog 71 #[.agg (gloX t m op a b A n c)] w fun e w' => e = .returned (.int .i64 (glbF t op a b n : Nat)) ∧ Step (fun _ => False) w w' := by
  have HV : Hid (∀ w, Calls Try.prog 148 #[.int .i64 (t : Int)] w fun e w' => e = .returned (.int .i64 (valF t : Nat)) ∧ w' = w) := fun w => rvalue_walk w t (by omega)
  have HR : Hid (∀ w, Calls Try.prog 35 #[.agg #[.int .u8 (op : Int), .int .u64 (a : Int), .int .u64 (b : Int), .slice A n c]] w fun e w' => e = .returned (.int .i64 (crtF op a b n : Nat)) ∧ Step (fun _ => False) w w') := fun w => crright_walk w op a b n c A hop
  have hwt := IntWalk.i64_in (t : Int) (by omega)
  simp only [gloX]
  by_cases h0 : valF t = 0
  · rw [glbF, if_pos h0]
    rw [h0] at HV
    rw [show (((0 : Nat) : Int)) = 0 from rfl] at HV
    clear h0
    go_enter Try.func71, Try.ntmps71
    go_wp2_with fail
    refine (HV.out _).mono ?_
    rintro e wS ⟨rfl, rfl⟩
    go_wp2_with fail
    refine (HR.out _).mono ?_
    rintro e w5 ⟨rfl, hS5⟩
    go_wp2_with fail
    go_ret
    exact ⟨rfl, (Step.refl.alloc _).trans hS5⟩
  · rw [glbF, if_neg h0]
    obtain ⟨r, hr⟩ : ∃ r : Int, r = (valF t : Nat) := ⟨_, rfl⟩
    have hne : ¬ r = 0 := by omega
    have hnb : (r != 0) = true := bne_iff_ne.2 hne
    rw [← hr] at HV ⊢
    clear h0 hr
    go_enter Try.func71, Try.ntmps71
    go_wp2_with fail
    refine (HV.out _).mono ?_
    rintro e wS ⟨rfl, rfl⟩
    go_wp2_with fail
    go_ret
    exact ⟨rfl, Step.refl.alloc _⟩

set_option maxRecDepth 100000 in
set_option maxHeartbeats 1600000 in
theorem gput_err (h : ¬ glbF t op a b n = 0) :
    Calls Try.prog 72 #[.agg (gloX t m op a b A n c)] w fun e w' => e = .returned (.tuple #[.slice none 0 0, .int .i64 (glbF t op a b n : Nat)]) ∧ Step (fun _ => False) w w' := by
  have HR : Hid (∀ w, Calls Try.prog 73 #[.agg (gloX t m op a b A n c)] w fun e w' => e = .returned (.int .i64 (glbF t op a b n : Nat)) ∧ Step (fun _ => False) w w') := fun w => gright_walk w t op a b n c m A hop ht
  obtain ⟨r, hr⟩ : ∃ r : Int, r = (glbF t op a b n : Nat) := ⟨_, rfl⟩
  have hne : ¬ r = 0 := by omega
  have hnb : (r != 0) = true := bne_iff_ne.2 hne
  rw [← hr] at HR ⊢
  simp only [gloX] at HR ⊢
  clear hr h
  go_enter Try.func72, Try.ntmps72
  go_wp2_with fail
  refine (HR.out _).mono ?_
  rintro e w5 ⟨rfl, hS5⟩
  have HS5 := Lib.hid ((Step.refl.alloc _).trans hS5)
  clear hS5
  go_wp2_with fail
  go_ret2
  exact ⟨rfl, HS5.out⟩
end

set_option maxRecDepth 100000 in
set_option maxHeartbeats 1600000 in
theorem encglobal_walk (w : World) (t : Nat) (m : Bool) (ht : t < 256) : Calls Try.prog 162 #[.agg #[.int .u8 (t : Int), .bool m]] w fun e w' => ∃ D c', e = .returned (.slice D 2 c') ∧ w'.ownsRow w.heap.size 5 1 (.slice D 2 c') 2 (u8s [UInt8.ofNat t, UInt8.ofNat (mutN m)]) ∧ Step (fun _ => False) w w' := by
  have hcs : ∀ q : Nat, q < 256 → u8s [UInt8.ofNat t, UInt8.ofNat q] = [Value.int .u8 (t : Int), .int .u8 (q : Int)] := fun q hq => by
    rw [show [UInt8.ofNat t, UInt8.ofNat q] = [UInt8.ofNat t] ++ [UInt8.ofNat q] from rfl, u8s_append, byte_cell t ht, byte_cell q hq]
    rfl
  cases m
  · have hO := World.ownsRow_lit (base := w.heap.size) (e := 5) (size := 1) (w.alloc (.cells #[.int .u8 (t : Int), .bool false] 66)) #[Value.int .u8 (t : Int), .int .u8 0] 2 (by simp) (by decide) rfl
    rw [mutN, if_neg (by decide), hcs 0 (by decide)]
    have HO := Lib.hid hO
    clear hO hcs
    go_enter Try.func162, Try.ntmps162
    go_wp2_with fail
    refine bodyPost_ret (v := .slice (some ⟨w.heap.size + 1, 0, none⟩) 2 2) (by simp [results, Try.results162, go_sem]) rfl ?_
    refine ⟨_, _, rfl, ?_, (Step.refl.alloc _).alloc _⟩
    have hO := HO.out
    rw [show (w.alloc (.cells #[.int .u8 (t : Int), .bool false] 66)).heap.size = w.heap.size + 1 by simp] at hO
    exact hO
  · have hO := World.ownsRow_lit (base := w.heap.size) (e := 5) (size := 1) (w.alloc (.cells #[.int .u8 (t : Int), .bool true] 66)) #[Value.int .u8 (t : Int), .int .u8 1] 2 (by simp) (by decide) rfl
    rw [mutN, if_pos rfl, hcs 1 (by decide)]
    have HO := Lib.hid hO
    clear hO hcs
    go_enter Try.func162, Try.ntmps162
    go_wp2_with fail
    refine bodyPost_ret (v := .slice (some ⟨w.heap.size + 1, 0, none⟩) 2 2) (by simp [results, Try.results162, go_sem]) rfl ?_
    refine ⟨_, _, rfl, ?_, (Step.refl.alloc _).alloc _⟩
    have hO := HO.out
    rw [show (w.alloc (.cells #[.int .u8 (t : Int), .bool true] 66)).heap.size = w.heap.size + 1 by simp] at hO
    exact hO
end Go.Proofs.Ytfemeendkjcffaa
/-! globals: Put, the reference's, Same; the page's example. -/
namespace Go.Proofs.Ytfemeendkjcffaa
open Go.RowKit

set_option maxRecDepth 100000 in
set_option maxHeartbeats 1600000 in
theorem rencglobal_walk (w : World) (t : Nat) (m : Bool) (ht : t < 256) : Calls Try.prog 166 #[.agg #[.int .u8 (t : Int), .bool m]] w fun e w' => e = .returned (.string (str [UInt8.ofNat t, UInt8.ofNat (mutN m)])) ∧ Step (fun _ => False) w w' := by
  have hcs : ∀ q : Nat, q < 256 → u8s [UInt8.ofNat t, UInt8.ofNat q] = [Value.int .u8 (t : Int), .int .u8 (q : Int)] := fun q hq => by
    rw [show [UInt8.ofNat t, UInt8.ofNat q] = [UInt8.ofNat t] ++ [UInt8.ofNat q] from rfl, u8s_append, byte_cell t ht, byte_cell q hq]
    rfl
  have key : ∀ (v : World) (q : Nat), q < 256 → (convert 53 9 (.slice (some ⟨v.heap.size, 0, none⟩) 2 2)).run Try.prog (v.alloc (.cells #[.int .u8 (t : Int), .int .u8 (q : Int)] 5)) = .ok (.string (str [UInt8.ofNat t, UInt8.ofNat q])) (v.alloc (.cells #[.int .u8 (t : Int), .int .u8 (q : Int)] 5)) := fun v q hq => by
    refine conv_bytes (S := fun k => k = v.heap.size) ?_
    rw [hcs q hq]
    exact reads_new v #[.int .u8 (t : Int), .int .u8 (q : Int)] 5 1 2 rfl
  cases m
  · have hk := key (w.alloc (.cells #[.int .u8 (t : Int), .bool false] 66)) 0 (by decide)
    rw [show (w.alloc (.cells #[.int .u8 (t : Int), .bool false] 66)).heap.size = w.heap.size + 1 by simp, show (((0 : Nat) : Int)) = 0 from rfl] at hk
    rw [mutN, if_neg (by decide)]
    obtain ⟨s, hs⟩ : ∃ s, s = str [UInt8.ofNat t, UInt8.ofNat 0] := ⟨_, rfl⟩
    rw [← hs] at hk ⊢
    clear hs key hcs
    go_enter Try.func166, Try.ntmps166
    go_wp2_with fail
    go_ret
    exact ⟨rfl, (Step.refl.alloc _).alloc _⟩
  · have hk := key (w.alloc (.cells #[.int .u8 (t : Int), .bool true] 66)) 1 (by decide)
    rw [show (w.alloc (.cells #[.int .u8 (t : Int), .bool true] 66)).heap.size = w.heap.size + 1 by simp, show (((1 : Nat) : Int)) = 1 from rfl] at hk
    rw [mutN, if_pos rfl]
    obtain ⟨s, hs⟩ : ∃ s, s = str [UInt8.ofNat t, UInt8.ofNat 1] := ⟨_, rfl⟩
    rw [← hs] at hk ⊢
    clear hs key hcs
    go_enter Try.func166, Try.ntmps166
    go_wp2_with fail
    go_ret
    exact ⟨rfl, (Step.refl.alloc _).alloc _⟩

set_option maxRecDepth 100000 in
set_option maxHeartbeats 3200000 in
theorem gput_ok (w : World) (t op a c : Nat) (m : Bool) (A : Option Addr) (ht : t < 256) (hv : valF t = 0) (hok : ConstOk op a) (ha : a < 18446744073709551616) :
    Calls Try.prog 72 #[.agg (gloX t m op a 0 A 0 c)] w fun e w' => ∃ D c', e = .returned (.tuple #[.slice D (gputL t m op a).length c', .int .i64 0]) ∧
      w'.ownsRow w.heap.size 5 1 (.slice D (gputL t m op a).length c') (gputL t m op a).length (u8s (gputL t m op a)) ∧ Step (fun _ => False) w w' := by
  have hop : op < 256 := by rcases hok with ⟨rfl, h⟩ | ⟨rfl, h⟩ | rfl <;> decide
  have HR : Hid (∀ w, Calls Try.prog 73 #[.agg (gloX t m op a 0 A 0 c)] w fun e w' => e = .returned (.int .i64 0) ∧ Step (fun _ => False) w w') := fun w => by
    have := gright_walk w t op a 0 0 c m A hop ht
    rw [glbF, if_pos hv, crt_ok hok] at this
    exact this
  have HP : Hid (∀ w, Calls Try.prog 36 #[.agg #[.int .u8 (op : Int), .int .u64 (a : Int), .int .u64 0, .slice A 0 c]] w fun e w' => ∃ D c', e = .returned (.tuple #[.slice D (cputL op a).length c', .int .i64 0]) ∧
      w'.ownsRow w.heap.size 5 1 (.slice D (cputL op a).length c') (cputL op a).length (u8s (cputL op a)) ∧ Step (fun _ => False) w w') := fun w => cput_ok w op a c A hok ha
  have hl1 : (cputL op a).length ≤ 12 := by have := cT_len op a; rw [cputL]; simp; omega
  obtain ⟨T, hT⟩ : ∃ T, T = cputL op a := ⟨_, rfl⟩
  obtain ⟨Z, hZ⟩ : ∃ Z, Z = gputL t m op a := ⟨_, rfl⟩
  have HZ : Hid (Z = [UInt8.ofNat t, UInt8.ofNat (mutN m)] ++ T) := by rw [Hid, hZ, gputL, hT]; rfl
  rw [← hT] at HP hl1
  rw [← hZ]
  clear hT hZ hv
  simp only [gloX] at HR ⊢
  go_enter Try.func72, Try.ntmps72
  go_wp2_with fail
  refine (HR.out _).mono ?_
  rintro e w5 ⟨rfl, hS5⟩
  have HX5 := Lib.hid ((Blk.new w 115 #[.int .u8 (t : Int), .bool m, .int .u8 (op : Int), .int .u64 (a : Int), .int .u64 0, .slice A 0 c]).step hS5 id)
  have HS5 := Lib.hid ((Step.refl.alloc _).trans hS5)
  clear hS5
  obtain ⟨X, hX⟩ : ∃ X, X = w.heap.size := ⟨_, rfl⟩
  rw [← hX] at HX5 ⊢
  clear hX
  have x2 := HX5.out.cell 2
  have x3 := HX5.out.cell 3
  have x4 := HX5.out.cell 4
  have x5 := HX5.out.cell 5
  simp at x2 x3 x4 x5
  go_wp2_with fail
  refine (HP.out _).mono ?_
  rintro e w6 ⟨D6, c6, rfl, hown, hS⟩
  have HO6 := Lib.hid hown
  have HX6 := Lib.hid (HX5.out.step hS id)
  have HS6 := Lib.hid (HS5.out.trans hS)
  clear hown hS HX5 x2 x3 x4 x5
  have x0 := HX6.out.cell 0
  have x1 := HX6.out.cell 1
  simp at x0 x1
  go_wp2_with fail
  refine (encglobal_walk _ t m ht).mono ?_
  rintro e w7 ⟨D7, c7, rfl, hown, hS⟩
  have HE7 := Lib.hid (own_base hown (base' := w.heap.size) (fun q hq => Nat.le_trans HS6.out.size (own_ge hown q hq)))
  have HR7 := Lib.hid (Reads.of_own (own_step HO6.out hS (fun _ _ => id)))
  have HS7 := Lib.hid (HS6.out.trans hS)
  clear hown hS HO6 HX6 x0 x1
  have hone := u8s_one T
  have hm : 2 + T.length ≤ maxLen := by unfold maxLen; omega
  have hsz := HS7.out.size
  go_wp2_with (at_builtin; refine wpList_append_src _ rfl _ _ (by rfl) E_u8 (by rfl) HE7.out (by rfl) HR7.out hone hm (by omega) hsz ?_; intro D8 c8 w8 hown hgrow hat)
  have HS8 := Lib.hid (grow_step HS7.out hgrow HE7.out (Nat.le_refl _))
  have hcs : u8s [UInt8.ofNat t, UInt8.ofNat (mutN m)] ++ u8s T = u8s Z := by rw [HZ.out, u8s_append]
  have hln : 2 + T.length = Z.length := by rw [HZ.out]; simp; omega
  rw [hcs] at hown
  refine bodyPost_ret (v := .tuple #[.slice D8 (2 + T.length) c8, .int .i64 0]) (by simp [results, Try.results72, go_sem]) rfl ?_
  rw [hln] at hown ⊢
  exact ⟨D8, c8, rfl, hown, HS8.out⟩

set_option maxRecDepth 100000 in
set_option maxHeartbeats 3200000 in
theorem grput_walk (w : World) (t op a c : Nat) (m : Bool) (A : Option Addr) (ht : t < 256) (hok : ConstOk op a) (ha : a < 18446744073709551616) :
    Calls Try.prog 77 #[.agg (gloX t m op a 0 A 0 c)] w fun e w' => e = .returned (.string (str (gputL t m op a))) ∧ Step (fun _ => False) w w' := by
  have HP : Hid (∀ w, Calls Try.prog 40 #[.agg #[.int .u8 (op : Int), .int .u64 (a : Int), .int .u64 0, .slice A 0 c]] w fun e w' => e = .returned (.string (str (cputL op a))) ∧ Step (fun _ => False) w w') := fun w => crput_walk w op a c A hok ha
  have HC : Hid (∀ w, Calls Try.prog 166 #[.agg #[.int .u8 (t : Int), .bool m]] w fun e w' => e = .returned (.string (str [UInt8.ofNat t, UInt8.ofNat (mutN m)])) ∧ Step (fun _ => False) w w') := fun w => rencglobal_walk w t m ht
  have hl1 : (cputL op a).length ≤ 12 := by have := cT_len op a; rw [cputL]; simp; omega
  obtain ⟨T, hT⟩ : ∃ T, T = cputL op a := ⟨_, rfl⟩
  obtain ⟨U, hU⟩ : ∃ U, U = [UInt8.ofNat t, UInt8.ofNat (mutN m)] := ⟨_, rfl⟩
  obtain ⟨Z, hZ⟩ : ∃ Z, Z = gputL t m op a := ⟨_, rfl⟩
  have hl2 : U.length = 2 := by rw [hU]; rfl
  have ha1 : str U ++ str T = str Z := by rw [hZ, gputL, hU, hT]; exact str_append _ _
  rw [← hT] at HP hl1
  rw [← hU] at HC
  rw [← hZ]
  have hs1 := str_size T
  have hs2 : (str U).size = 2 := by rw [str_size, hl2]
  clear hT hU hZ hl2
  have HX0 := Lib.hid (Blk.new w 115 (gloX t m op a 0 A 0 c))
  have HS0 := Lib.hid ((Step.refl (F := fun _ => False)).alloc (w := w) (.cells (gloX t m op a 0 A 0 c) 115))
  go_enter Try.func77, Try.ntmps77
  go_wp2_with fail
  obtain ⟨V, hV⟩ : ∃ V, V = w.alloc (.cells (gloX t m op a 0 A 0 c) 115) := ⟨_, rfl⟩
  obtain ⟨X, hX⟩ : ∃ X, X = w.heap.size := ⟨_, rfl⟩
  rw [← hV] at HX0 HS0 ⊢
  rw [← hX] at HX0 ⊢
  clear hV hX
  have x0 := HX0.out.cell 0
  have x1 := HX0.out.cell 1
  have x2 := HX0.out.cell 2
  have x3 := HX0.out.cell 3
  have x4 := HX0.out.cell 4
  have x5 := HX0.out.cell 5
  simp [gloX] at x0 x1 x2 x3 x4 x5
  have d0 := cls_cell (F := fun _ => False) (w0 := V) x0 id
  have d1 := cls_cell (F := fun _ => False) (w0 := V) x1 id
  have d2 := cls_cell (F := fun _ => False) (w0 := V) x2 id
  have d3 := cls_cell (F := fun _ => False) (w0 := V) x3 id
  have d4 := cls_cell (F := fun _ => False) (w0 := V) x4 id
  have d5 := cls_cell (F := fun _ => False) (w0 := V) x5 id
  clear x0 x1 x2 x3 x4 x5
  refine Mix.wp_region_mix [2, 5] [2, 5] (Step (fun _ => False) V) (by kernel_rfl) (by kernel_rfl) Step.refl.drew (fun hcls => ?_)
  refine Mix.wpL_reads 2 (by rfl) ?_
  simp only [List.take_succ_cons, List.drop_succ_cons, List.take_zero, List.drop_zero]
  repeat (go_big_quiet_step (fail))
  refine wpQuiet_nil ?_
  refine Mix.wpL_op (by rfl) (fun K hK => ?_)
  go_simp
  refine (HC.out _).mono ?_
  rintro e wa ⟨rfl, hSa⟩
  have HSa := Lib.hid (Step.refl.drew.trans hSa)
  refine hK _ _ (fun hlt => Mix.cl HSa.out) ?_
  clear hK K hSa
  refine Mix.wpL_reads 2 (by rfl) ?_
  simp only [List.take_succ_cons, List.drop_succ_cons, List.take_zero, List.drop_zero]
  repeat (go_big_quiet_step (fail))
  refine wpQuiet_nil ?_
  refine Mix.wpL_op (by rfl) (fun K hK => ?_)
  go_simp
  refine (HP.out _).mono ?_
  rintro e wb ⟨rfl, hSb⟩
  have HSb := Lib.hid (HSa.out.trans hSb)
  refine hK _ _ (fun hlt => Mix.cl HSb.out) ?_
  clear hK K hSb HSa
  refine Mix.wpL_reads 2 (by rfl) ?_
  simp only [List.take_succ_cons, List.drop_succ_cons, List.take_zero, List.drop_zero]
  repeat (go_big_quiet_step (fail))
  refine wpQuiet_nil ?_
  refine Mix.wpL_end ?_
  go_wp2_with fail
  go_ret
  exact ⟨rfl, HS0.out.trans HSb.out⟩

set_option maxRecDepth 100000 in
set_option maxHeartbeats 3200000 in
theorem grsame_walk (w : World) (t op a c1 c2 : Nat) (m : Bool) (A1 A2 : Option Addr) :
    Calls Try.prog 78 #[.agg (gloX t m op a 0 A1 0 c1), .agg (gloX t m op a 0 A2 0 c2)] w fun e w' => e = .returned (.bool true) ∧ Step (fun _ => False) w w' := by
  have HSm : Hid (∀ w, Calls Try.prog 39 #[.agg #[.int .u8 (op : Int), .int .u64 (a : Int), .int .u64 0, .slice A1 0 c1], .agg #[.int .u8 (op : Int), .int .u64 (a : Int), .int .u64 0, .slice A2 0 c2]] w fun e w' => e = .returned (.bool true) ∧ Step (fun _ => False) w w') := fun w => by
    have := rsame_walk w op a 0 c1 op a 0 c2 A1 A2 [] [] (fun _ => False) (fun _ => False) ⟨by simp [u32s], fun h => absurd h (by decide)⟩ ⟨by simp [u32s], fun h => absurd h (by decide)⟩ (by decide)
    rw [same_yes] at this
    exact this
  simp only [gloX]
  go_enter Try.func78, Try.ntmps78
  go_wp2_with fail
  refine (HSm.out _).mono ?_
  rintro e w5 ⟨rfl, hS5⟩
  go_wp2_with fail
  go_ret
  exact ⟨rfl, ((Step.refl.alloc _).alloc _).trans hS5⟩

theorem gput_5 : gputL 127 true 65 5 = [127, 1, 65, 5, 11] := by kernel_rfl
set_option maxRecDepth 100000 in
set_option maxHeartbeats 1600000 in
theorem awake12 (w : World) : Calls Try.prog 70 #[] w fun e w' => e = .returned (.bool true) ∧ Step (fun _ => False) w w' := by
  have HP : Hid (∀ w, Calls Try.prog 72 #[.agg #[.int .u8 127, .bool true, .int .u8 65, .int .u64 5, .int .u64 0, .slice none 0 0]] w fun e w' => ∃ D c, e = .returned (.tuple #[.slice D 5 c, .int .i64 0]) ∧
      w'.ownsRow w.heap.size 5 1 (.slice D 5 c) 5 (u8s [127, 1, 65, 5, 11]) ∧ Step (fun _ => False) w w') := fun w => by
    have := gput_ok w 127 65 5 0 true none (by decide) (by decide) (.inr (.inl ⟨rfl, by decide⟩)) (by decide)
    rw [gput_5] at this
    exact this
  go_enter Try.func70, Try.ntmps70
  go_wp2_with fail
  refine (HP.out _).mono ?_
  rintro e w5 ⟨D, c, rfl, hown, hS⟩
  have hcv := conv_bytes (c := c) (Reads.of_own hown)
  rw [show str [127, 1, 65, 5, 11] = (⟨#[127, 1, 65, 5, 11]⟩ : ByteArray) from rfl] at hcv
  clear hown
  go_wp2_with fail
  go_ret
  exact ⟨rfl, hS⟩
end Go.Proofs.Ytfemeendkjcffaa
