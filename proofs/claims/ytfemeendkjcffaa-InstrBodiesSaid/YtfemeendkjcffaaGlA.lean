/-
  globals: Get of what may be.
-/
import Derived.Test.YtfemeendkjcffaaCrA
set_option linter.unusedVariables false
set_option linter.unusedSimpArgs false
namespace Go.Proofs.Ytfemeendkjcffaa
open Go.RowKit

def gloC (t : Int) (m : Bool) (op a : Int) : Array Value := #[.int .u8 t, .bool m, .int .u8 op, .int .u64 a, .int .u64 0, .slice none 0 0]
theorem gloC_one (t : Int) (m : Bool) (op a : Int) : (gloC t m op a).all (·.oneCell') = true := by simp [gloC, Value.oneCell']
def mutN (m : Bool) : Nat := if m then 1 else 0
def gputL (t : Nat) (m : Bool) (op a : Nat) : List UInt8 := UInt8.ofNat t :: UInt8.ofNat (mutN m) :: cputL op a

set_option maxRecDepth 100000 in
set_option maxHeartbeats 1600000 in
theorem valtype_ok (w : World) (X : Nat) (S : Nat → Prop) (D : Option Addr) (c : Nat) (bs : List UInt8) (k : Nat) (h : Scn w X S D c bs k) (t : Nat) (rest : List UInt8) (ht : t < 256) (hv : valF t = 0) (hd : bs.drop k = UInt8.ofNat t :: rest) :
    Calls Try.prog 198 #[.pointer (some ⟨X, 0, none⟩)] w fun e w' => e = .returned (.int .u8 (t : Int)) ∧ Scn w' X S D c bs (k + 1) ∧ Step (fun i => i = X) w w' := by
  have HV : Hid (∀ w, Calls Try.prog 163 #[.int .u8 (t : Int)] w fun e w' => e = .returned (.int .i64 0) ∧ w' = w) := fun w => by
    have := value_walk w t ht
    rw [hv] at this
    exact this
  have x1 := h.c1
  have HH := Lib.hid h
  clear h hv
  go_enter Try.func198, Try.ntmps198
  go_wp2_with fail
  refine (byte_at HH.out ht hd).mono ?_
  rintro e w5 ⟨rfl, hs, hst⟩
  go_wp2_with fail
  refine (HV.out _).mono ?_
  rintro e wS ⟨rfl, rfl⟩
  go_wp2_with fail
  refine (aunless_ok _ _ _).mono ?_
  rintro e wS ⟨rfl, rfl⟩
  go_wp2_with fail
  go_ret
  exact ⟨rfl, hs, hst⟩

set_option maxRecDepth 100000 in
set_option maxHeartbeats 1600000 in
theorem global_ok (w : World) (X : Nat) (S : Nat → Prop) (D : Option Addr) (c : Nat) (bs : List UInt8) (k : Nat) (h : Scn w X S D c bs k) (t : Nat) (m : Bool) (rest : List UInt8) (ht : t < 256) (hv : valF t = 0) (hd : bs.drop k = UInt8.ofNat t :: UInt8.ofNat (mutN m) :: rest) :
    Calls Try.prog 165 #[.pointer (some ⟨X, 0, none⟩)] w fun e w' => e = .returned (.agg #[.int .u8 (t : Int), .bool m]) ∧ Scn w' X S D c bs (k + 1 + 1) ∧ Step (fun i => i = X) w w' := by
  have hd1 := (drop_cons hd).2.2
  have hxl := h.lt
  have hlow := h.low
  have HH := Lib.hid h
  clear h
  have HB0 := Lib.hid (Blk.new w 66 #[.int .u8 0, .bool false])
  have HT0 := Lib.hid ((Step.refl (F := fun i => i = X)).alloc (w := w) (.cells #[.int .u8 0, .bool false] 66))
  obtain ⟨R, hR⟩ : ∃ R, R = w.heap.size := ⟨_, rfl⟩
  have hRX : R ≠ X := by omega
  have hRw : w.heap.size ≤ R := by omega
  have hRS : ∀ j, S j → j ≠ R := fun j hj => by have := hlow j hj; omega
  rw [← hR] at HB0
  have hb1 : ((mutN m : Int) == 1) = m := by cases m <;> rfl
  have hb2 : decide ((mutN m : Int) ≤ 1) = true := by cases m <;> rfl
  have hb3 : (mutN m : Int) ≤ 1 := by cases m <;> decide
  have hb4 : mutN m < 256 := by cases m <;> decide
  obtain ⟨q, hq⟩ : ∃ q, q = mutN m := ⟨_, rfl⟩
  rw [← hq] at hb1 hb2 hb3 hb4 hd hd1
  clear hq
  go_enter Try.func165, Try.ntmps165
  go_wp2_with fail
  refine (valtype_ok _ X S D c bs k (HH.out.alloc _) t _ ht hv hd).mono ?_
  rintro e w5 ⟨rfl, hs5, hst5⟩
  have HB5 := Lib.hid (HB0.out.step hst5 hRX)
  have HS5 := Lib.hid hs5
  have HT5 := Lib.hid (HT0.out.trans hst5)
  rw [← hR]
  clear hs5 hst5 HB0 HT0 hR HH
  have x1 := HS5.out.c1
  go_wp2_with fail
  refine (byte_at (b := q) HS5.out hb4 hd1).mono ?_
  rintro e w6 ⟨rfl, hs6, hst6⟩
  have HB6 := Lib.hid (HB5.out.step hst6 hRX)
  have HS6 := Lib.hid hs6
  have HT6 := Lib.hid (HT5.out.trans hst6)
  clear hs6 hst6 HB5 HS5 HT5 x1
  go_wp2_with fail
  refine (aunless_ok _ _ _).mono ?_
  rintro e wS ⟨rfl, rfl⟩
  have hone : (#[.int .u8 (t : Int), .bool m] : Array Value).all (·.oneCell') = true := by simp [Value.oneCell']
  have hbl := HB6.out
  go_wp2_with (refine wpList_store_rowTo rfl 66 _ _ rfl rfl R #[.int .u8 (t : Int), .bool m] rfl rfl 66 _ hbl rfl rfl hone ?_)
  have r0 := (hbl.row #[.int .u8 (t : Int), .bool m]).cell 0
  have r1 := (hbl.row #[.int .u8 (t : Int), .bool m]).cell 1
  simp at r0 r1
  have hSF := HS6.out.step (Step.setRow (F := fun j => j = R) Step.refl (g := R) (.inl rfl) #[.int .u8 (t : Int), .bool m]) (Ne.symm hRX) hRS
  have hTF := HT6.out.setRow (g := R) (.inr hRw) #[.int .u8 (t : Int), .bool m]
  exact bodyPost_ret (v := .agg #[.int .u8 (t : Int), .bool m]) (by simp [results, Try.results165, go_sem, r0, r1]) rfl ⟨rfl, hSF, hTF⟩

set_option maxRecDepth 100000 in
set_option maxHeartbeats 3200000 in
theorem gget_ok (w : World) (X : Nat) (S : Nat → Prop) (D : Option Addr) (c : Nat) (bs : List UInt8) (k : Nat) (h : Scn w X S D c bs k) (t : Nat) (m : Bool) (op a : Nat) (rest : List UInt8) (ht : t < 256) (hv : valF t = 0) (hok : ConstOk op a) (ha : a < 18446744073709551616) (hd : bs.drop k = gputL t m op a ++ rest) :
    Calls Try.prog 76 #[.pointer (some ⟨X, 0, none⟩)] w fun e w' => e = .returned (.agg (gloC (t : Int) m (op : Int) (a : Int))) ∧ Scn w' X S D c bs (k + (gputL t m op a).length) ∧ Step (fun i => i = X) w w' := by
  have hd0 : bs.drop k = UInt8.ofNat t :: UInt8.ofNat (mutN m) :: (cputL op a ++ rest) := by rw [hd, gputL]; simp
  have hd1 := (drop_cons (drop_cons hd0).2.2).2.2
  have hlen : k + (gputL t m op a).length = k + 1 + 1 + (cputL op a).length := by rw [gputL]; simp; omega
  rw [hlen]
  have hxl := h.lt
  have hlow := h.low
  have HH := Lib.hid h
  clear h hd hlen
  have HB0 := Lib.hid (Blk.new w 115 (gloC 0 false 0 0))
  have HT0 := Lib.hid ((Step.refl (F := fun i => i = X)).alloc (w := w) (.cells (gloC 0 false 0 0) 115))
  obtain ⟨R, hR⟩ : ∃ R, R = w.heap.size := ⟨_, rfl⟩
  have hRX : R ≠ X := by omega
  have hRw : w.heap.size ≤ R := by omega
  have hRS : ∀ j, S j → j ≠ R := fun j hj => by have := hlow j hj; omega
  rw [← hR] at HB0
  go_enter Try.func76, Try.ntmps76
  go_wp2_with fail
  refine (global_ok _ X S D c bs k (HH.out.alloc _) t m _ ht hv hd0).mono ?_
  rintro e w5 ⟨rfl, hs5, hst5⟩
  have HB5 := Lib.hid (HB0.out.step hst5 hRX)
  have HS5 := Lib.hid hs5
  have HT5 := Lib.hid (HT0.out.trans hst5)
  rw [← hR]
  clear hs5 hst5 HB0 HT0 hR HH
  go_wp2_with fail
  refine (cread_ok _ X S D c bs (k + 1 + 1) HS5.out op a rest hok ha hd1).mono ?_
  rintro e w6 ⟨rfl, hs6, hst6⟩
  have HB6 := Lib.hid (HB5.out.step hst6 hRX)
  have HS6 := Lib.hid hs6
  have HT6 := Lib.hid (HT5.out.trans hst6)
  clear hs6 hst6 HB5 HS5 HT5
  simp only [insC]
  have hone := gloC_one (t : Int) m (op : Int) (a : Int)
  have hbl := HB6.out
  go_wp2_with (refine wpList_store_rowTo rfl 115 _ _ rfl rfl R (gloC (t : Int) m (op : Int) (a : Int)) rfl rfl 115 _ hbl rfl rfl hone ?_)
  have r0 := (hbl.row (gloC (t : Int) m (op : Int) (a : Int))).cell 0
  have r1 := (hbl.row (gloC (t : Int) m (op : Int) (a : Int))).cell 1
  have r2 := (hbl.row (gloC (t : Int) m (op : Int) (a : Int))).cell 2
  have r3 := (hbl.row (gloC (t : Int) m (op : Int) (a : Int))).cell 3
  have r4 := (hbl.row (gloC (t : Int) m (op : Int) (a : Int))).cell 4
  have r5 := (hbl.row (gloC (t : Int) m (op : Int) (a : Int))).cell 5
  simp [gloC] at r0 r1 r2 r3 r4 r5
  have hSF := HS6.out.step (Step.setRow (F := fun j => j = R) Step.refl (g := R) (.inl rfl) (gloC (t : Int) m (op : Int) (a : Int))) (Ne.symm hRX) hRS
  have hTF := HT6.out.setRow (g := R) (.inr hRw) (gloC (t : Int) m (op : Int) (a : Int))
  exact bodyPost_ret (v := .agg (gloC (t : Int) m (op : Int) (a : Int))) (by simp [results, Try.results76, go_sem, gloC, r0, r1, r2, r3, r4, r5]) rfl ⟨rfl, hSF, hTF⟩
end Go.Proofs.Ytfemeendkjcffaa
