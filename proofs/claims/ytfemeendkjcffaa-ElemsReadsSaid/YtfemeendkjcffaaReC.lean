/-
  instr: Get of any bytes: what it comes to, kind by kind.
-/
import Derived.Test.YtfemeendkjcffaaReB
set_option linter.unusedVariables false
set_option linter.unusedSimpArgs false
namespace Go.Proofs.Ytfemeendkjcffaa
open Go.RowKit

def labsF (bs : List UInt8) : Nat → Nat → Rs (List Nat)
  | 0, k => .ok [] k
  | n + 1, k => match idxF bs k with
    | .er y a => .er y a
    | .ok v k' => match labsF bs n k' with
      | .er y a => .er y a
      | .ok L k2 => .ok (v :: L) k2
/-- What stands behind an operation of a kind. -/
def getT (bs : List UInt8) (op m k1 : Nat) : Rs (Nat × Nat × Nat × List Nat) :=
  if m = 0 then .ok (op, 0, 0, []) k1
  else if m = 1 then (match byF bs k1 with | .er y a => .er y a | .ok a k2 => if blkF a = 0 then .ok (op, a, 0, []) k2 else .er (blkF a) k1)
  else if m = 3 then (match cntF bs k1 with | .er y a => .er y a | .ok n k2 => match labsF bs n k2 with | .er y a => .er y a | .ok L k3 => match idxF bs k3 with | .er y a => .er y a | .ok a k4 => .ok (op, a, 0, L) k4)
  else if m = 5 then (match idxF bs k1 with | .er y a => .er y a | .ok a k2 => match byF bs k2 with | .er y a => .er y a | .ok z k3 => if z = 0 then .ok (op, a, 0, []) k3 else .er 10 k2)
  else if m = 8 then (match idxF bs k1 with | .er y a => .er y a | .ok a k2 => match idxF bs k2 with | .er y a => .er y a | .ok b k3 => .ok (op, a, b, []) k3)
  else if m = 9 then (match byF bs k1 with | .er y a => .er y a | .ok z k2 => if z = 0 then .ok (op, 0, 0, []) k2 else .er 10 k1)
  else if m = 10 then (match s32F bs k1 with | .er y a => .er y a | .ok v k2 => .ok (op, (v % 4294967296).toNat, 0, []) k2)
  else if m = 11 then (match s64F bs k1 with | .er y a => .er y a | .ok v k2 => .ok (op, (v % 18446744073709551616).toNat, 0, []) k2)
  else (match idxF bs k1 with | .er y a => .er y a | .ok a k2 => .ok (op, a, 0, []) k2)
def getF (bs : List UInt8) (k : Nat) : Rs (Nat × Nat × Nat × List Nat) := match byF bs k with
  | .er y a => .er y a
  | .ok op k1 => if chkF op = 0 then getT bs op (infF op).imm k1 else .er (chkF op) k
def GetR (X : Nat) (S : Nat → Prop) (D : Option Addr) (c : Nat) (bs : List UInt8) (w : World) (r : Rs (Nat × Nat × Nat × List Nat)) (e : Ending) (w' : World) : Prop :=
  match r with
  | .ok x k => ∃ D' c', e = .returned (.agg (insC (x.1 : Int) (x.2.1 : Int) (x.2.2.1 : Int) D' x.2.2.2.length c')) ∧ w'.ownsRow w.heap.size 51 1 (.slice D' x.2.2.2.length c') x.2.2.2.length (u32s x.2.2.2) ∧ Scn w' X S D c bs k ∧ Step (fun i => i = X) w w'
  | .er y a => e = .panicked (stopP (y : Int) (a : Int)) ∧ Step (fun i => i = X) w w'
theorem cntF_le {bs : List UInt8} {k v k' : Nat} (h : cntF bs k = .ok v k') : v ≤ 10000 := by
  rw [cntF] at h
  split at h
  · split at h
    · injection h with h1 h2; omega
    · cases h
  · cases h
def preL (L : List Nat) : Rs (List Nat) → Rs (List Nat)
  | .ok M k => .ok (L ++ M) k
  | .er y a => .er y a

set_option maxRecDepth 100000 in
set_option maxHeartbeats 3200000 in
theorem gany_0 (w : World) (X : Nat) (S : Nat → Prop) (D : Option Addr) (c : Nat) (bs : List UInt8) (k : Nat) (h : Scn w X S D c bs k) (op k1 : Nat) (i : Inf) (hby : byF bs k = .ok op k1) (hck : chkF op = 0) (RR : Rs (Nat × Nat × Nat × List Nat)) (HRR : Hid (RR = .ok (op, 0, 0, []) k1))
    (HO : Hid (∀ w, Calls Try.prog 25 #[.int .u8 (op : Int)] w fun e w' => e = .returned (infM i 0) ∧ Step (fun _ => False) w w')) :
    Calls Try.prog 142 #[.pointer (some ⟨X, 0, none⟩)] w (GetR X S D c bs w RR) := by
  have HBY : Hid (∀ w', Scn w' X S D c bs k → Calls Try.prog 144 #[.pointer (some ⟨X, 0, none⟩)] w' fun e w'' => e = .returned (.int .u8 (op : Int)) ∧ Scn w'' X S D c bs k1 ∧ Step (fun i => i = X) w' w'') := fun w' h' => by
    have h1 := byte_any w' X S D c bs k h'
    rw [hby] at h1
    exact h1
  have hop := byF_lt hby
  clear hby
  have HC : Hid (∀ w, Calls Try.prog 26 #[.int .u8 (op : Int)] w fun e w' => e = .returned (.int .i64 0) ∧ Step (fun _ => False) w w') := fun w => by
    have := check_walk w op hop
    rw [hck] at this
    exact this
  have hxl := h.lt
  have HH := Lib.hid h
  have hlow := h.low
  clear h
  have hone0 : (insA 0 0 0 (.slice none 0 0)).all (·.oneCell') = true := by simp [insA, Value.oneCell']
  go_enter Try.func142, Try.ntmps142
  go_wp2_with fail
  refine (at_walk _ X S D c bs k (HH.out.alloc _)).mono ?_
  rintro e w5 ⟨rfl, hw5⟩
  have HB5 := Lib.hid (Blk.new w 50 (insA 0 0 0 (.slice none 0 0)))
  have HS5 := Lib.hid (HH.out.alloc (.cells (insA 0 0 0 (.slice none 0 0)) 50))
  have HT5 := Lib.hid ((Step.refl (F := fun i => i = X)).alloc (w := w) (.cells (insA 0 0 0 (.slice none 0 0)) 50))
  rw [show w.alloc (.cells (insA 0 0 0 (.slice none 0 0)) 50) = w5 from hw5.symm] at HB5 HS5 HT5
  obtain ⟨R, hR⟩ : ∃ R, R = w.heap.size := ⟨_, rfl⟩
  have hRX : R ≠ X := by omega
  have hRw : w.heap.size ≤ R := by omega
  have hRS : ∀ j, S j → j ≠ R := fun j hj => by have := hlow j hj; omega
  rw [← hR] at HB5 ⊢
  clear hR hxl hw5 HH
  go_wp2_with fail
  refine (HBY.out _ HS5.out).mono ?_
  rintro e w6 ⟨rfl, hs6, ht6⟩
  have HB6 := Lib.hid ((HB5.out.step ht6 hRX).alloc (.cells (insA op 0 0 (.slice none 0 0)) 50))
  have HI6 := Lib.hid (Blk.new w6 50 (insA op 0 0 (.slice none 0 0)))
  have HS6 := Lib.hid (hs6.alloc (.cells (insA op 0 0 (.slice none 0 0)) 50))
  have HT6 := Lib.hid ((HT5.out.trans ht6).alloc (.cells (insA op 0 0 (.slice none 0 0)) 50))
  have hRI : R < w6.heap.size := by have := HB5.out.lt; have := ht6.size; omega
  have hXI : X < w6.heap.size := by have := HS5.out.lt; have := ht6.size; omega
  have hIw : w.heap.size ≤ w6.heap.size := (HT5.out.trans ht6).size
  clear hs6 ht6 HB5 HS5 HT5
  obtain ⟨I, hI⟩ : ∃ I, I = w6.heap.size := ⟨_, rfl⟩
  obtain ⟨W, hW⟩ : ∃ W, W = w6.alloc (.cells (insA op 0 0 (.slice none 0 0)) 50) := ⟨_, rfl⟩
  rw [← hI] at HI6 hRI hXI hIw
  have hIS : ∀ j, S j → j ≠ I := fun j hj => by have := hlow j hj; omega
  have hIX : I ≠ X := by omega
  have hRI2 : R ≠ I := by omega
  rw [← hW] at HB6 HI6 HS6 HT6
  have x0 := HI6.out.cell 0
  simp [insA] at x0
  rw [hW] at x0
  rw [hI] at x0
  go_wp2_with fail
  rw [show w6.alloc (.cells #[.int .u8 (op : Int), .int .u64 0, .int .u64 0, .slice none 0 0] 50) = W from hW.symm]
  rw [← hI]
  clear x0 hW hI
  refine (HC.out _).mono ?_
  rintro e w7 ⟨rfl, ht7⟩
  have HB7 := Lib.hid (HB6.out.step ht7 id)
  have HI7 := Lib.hid (HI6.out.step ht7 id)
  have HS7 := Lib.hid (HS6.out.quiet ht7)
  have HT7 := Lib.hid (HT6.out.trans' ht7 (fun _ h => h.elim))
  clear ht7 HB6 HI6 HS6 HT6 HC
  have x0 := HI7.out.cell 0
  simp [insA] at x0
  go_wp2_with fail
  refine (aunless_ok _ _ _).mono ?_
  rintro e w8 ⟨rfl, hw8⟩
  obtain rfl : w7 = w8 := hw8.symm
  go_wp2_with fail
  refine (at_walk _ X S D c bs k1 HS7.out).mono ?_
  rintro e w8 ⟨rfl, hw8⟩
  obtain rfl : w7 = w8 := hw8.symm
  go_wp2_with fail
  refine (HO.out _).mono ?_
  rintro e w8 ⟨rfl, ht8⟩
  have HB8 := Lib.hid (HB7.out.step ht8 id)
  have HI8 := Lib.hid (HI7.out.step ht8 id)
  have HS8 := Lib.hid (HS7.out.quiet ht8)
  have HT8 := Lib.hid (HT7.out.trans' ht8 (fun _ h => h.elim))
  clear ht8 HB7 HI7 HS7 HT7 HO x0
  have hfd := field_imm i 0
  simp only [infM]
  have y0 := HI8.out.cell 0
  have y1 := HI8.out.cell 1
  have y2 := HI8.out.cell 2
  have y3 := HI8.out.cell 3
  simp [insA] at y0 y1 y2 y3
  have hone : (#[.int .u8 (op : Int), .int .u64 0, .int .u64 0, .slice none 0 0] : Array Value).all (·.oneCell') = true := by simp [Value.oneCell']
  have hbl := HB8.out
  go_wp2_with (refine wpList_store_rowTo rfl 50 _ _ rfl rfl R #[.int .u8 (op : Int), .int .u64 0, .int .u64 0, .slice none 0 0] rfl rfl 50 _ hbl rfl rfl hone ?_)
  have r0 := (hbl.row #[.int .u8 (op : Int), .int .u64 0, .int .u64 0, .slice none 0 0]).cell 0
  have r1 := (hbl.row #[.int .u8 (op : Int), .int .u64 0, .int .u64 0, .slice none 0 0]).cell 1
  have r2 := (hbl.row #[.int .u8 (op : Int), .int .u64 0, .int .u64 0, .slice none 0 0]).cell 2
  have r3 := (hbl.row #[.int .u8 (op : Int), .int .u64 0, .int .u64 0, .slice none 0 0]).cell 3
  simp at r0 r1 r2 r3
  have hSF := HS8.out.step (Step.setRow (F := fun j => j = R) Step.refl (g := R) (.inl rfl) #[.int .u8 (op : Int), .int .u64 0, .int .u64 0, .slice none 0 0]) (Ne.symm hRX) hRS
  have hTF := HT8.out.setRow (g := R) (.inr hRw) #[.int .u8 (op : Int), .int .u64 0, .int .u64 0, .slice none 0 0]
  refine bodyPost_ret (v := .agg #[.int .u8 (op : Int), .int .u64 0, .int .u64 0, .slice none 0 0]) (by simp [results, Try.results142, go_sem, r0, r1, r2, r3]) rfl ?_
  rw [show RR = Rs.ok (op, 0, 0, []) k1 from HRR.out]
  exact ⟨none, 0, rfl, World.ownsRow_nil _ _ _ _, hSF, hTF⟩

set_option maxRecDepth 100000 in
set_option maxHeartbeats 3200000 in
theorem gany_d (w : World) (X : Nat) (S : Nat → Prop) (D : Option Addr) (c : Nat) (bs : List UInt8) (k : Nat) (h : Scn w X S D c bs k) (op k1 : Nat) (i : Inf) (hby : byF bs k = .ok op k1) (hck : chkF op = 0) (m : Int) (hm : ¬ m = 0 ∧ ¬ m = 1 ∧ ¬ m = 3 ∧ ¬ m = 5 ∧ ¬ m = 8 ∧ ¬ m = 9 ∧ ¬ m = 10 ∧ ¬ m = 11) (RR : Rs (Nat × Nat × Nat × List Nat)) (HRR : Hid (RR = match idxF bs k1 with | .er y a => .er y a | .ok a k2 => .ok (op, a, 0, []) k2))
    (HO : Hid (∀ w, Calls Try.prog 25 #[.int .u8 (op : Int)] w fun e w' => e = .returned (infM i m) ∧ Step (fun _ => False) w w')) :
    Calls Try.prog 142 #[.pointer (some ⟨X, 0, none⟩)] w (GetR X S D c bs w RR) := by
  have HBY : Hid (∀ w', Scn w' X S D c bs k → Calls Try.prog 144 #[.pointer (some ⟨X, 0, none⟩)] w' fun e w'' => e = .returned (.int .u8 (op : Int)) ∧ Scn w'' X S D c bs k1 ∧ Step (fun i => i = X) w' w'') := fun w' h' => by
    have h1 := byte_any w' X S D c bs k h'
    rw [hby] at h1
    exact h1
  have hop := byF_lt hby
  clear hby
  have HC : Hid (∀ w, Calls Try.prog 26 #[.int .u8 (op : Int)] w fun e w' => e = .returned (.int .i64 0) ∧ Step (fun _ => False) w w') := fun w => by
    have := check_walk w op hop
    rw [hck] at this
    exact this
  have hxl := h.lt
  have HH := Lib.hid h
  have hlow := h.low
  clear h
  have hone0 : (insA 0 0 0 (.slice none 0 0)).all (·.oneCell') = true := by simp [insA, Value.oneCell']
  go_enter Try.func142, Try.ntmps142
  go_wp2_with fail
  refine (at_walk _ X S D c bs k (HH.out.alloc _)).mono ?_
  rintro e w5 ⟨rfl, hw5⟩
  have HB5 := Lib.hid (Blk.new w 50 (insA 0 0 0 (.slice none 0 0)))
  have HS5 := Lib.hid (HH.out.alloc (.cells (insA 0 0 0 (.slice none 0 0)) 50))
  have HT5 := Lib.hid ((Step.refl (F := fun i => i = X)).alloc (w := w) (.cells (insA 0 0 0 (.slice none 0 0)) 50))
  rw [show w.alloc (.cells (insA 0 0 0 (.slice none 0 0)) 50) = w5 from hw5.symm] at HB5 HS5 HT5
  obtain ⟨R, hR⟩ : ∃ R, R = w.heap.size := ⟨_, rfl⟩
  have hRX : R ≠ X := by omega
  have hRw : w.heap.size ≤ R := by omega
  have hRS : ∀ j, S j → j ≠ R := fun j hj => by have := hlow j hj; omega
  rw [← hR] at HB5 ⊢
  clear hR hxl hw5 HH
  go_wp2_with fail
  refine (HBY.out _ HS5.out).mono ?_
  rintro e w6 ⟨rfl, hs6, ht6⟩
  have HB6 := Lib.hid ((HB5.out.step ht6 hRX).alloc (.cells (insA op 0 0 (.slice none 0 0)) 50))
  have HI6 := Lib.hid (Blk.new w6 50 (insA op 0 0 (.slice none 0 0)))
  have HS6 := Lib.hid (hs6.alloc (.cells (insA op 0 0 (.slice none 0 0)) 50))
  have HT6 := Lib.hid ((HT5.out.trans ht6).alloc (.cells (insA op 0 0 (.slice none 0 0)) 50))
  have hRI : R < w6.heap.size := by have := HB5.out.lt; have := ht6.size; omega
  have hXI : X < w6.heap.size := by have := HS5.out.lt; have := ht6.size; omega
  have hIw : w.heap.size ≤ w6.heap.size := (HT5.out.trans ht6).size
  clear hs6 ht6 HB5 HS5 HT5
  obtain ⟨I, hI⟩ : ∃ I, I = w6.heap.size := ⟨_, rfl⟩
  obtain ⟨W, hW⟩ : ∃ W, W = w6.alloc (.cells (insA op 0 0 (.slice none 0 0)) 50) := ⟨_, rfl⟩
  rw [← hI] at HI6 hRI hXI hIw
  have hIS : ∀ j, S j → j ≠ I := fun j hj => by have := hlow j hj; omega
  have hIX : I ≠ X := by omega
  have hRI2 : R ≠ I := by omega
  rw [← hW] at HB6 HI6 HS6 HT6
  have x0 := HI6.out.cell 0
  simp [insA] at x0
  rw [hW] at x0
  rw [hI] at x0
  go_wp2_with fail
  rw [show w6.alloc (.cells #[.int .u8 (op : Int), .int .u64 0, .int .u64 0, .slice none 0 0] 50) = W from hW.symm]
  rw [← hI]
  clear x0 hW hI
  refine (HC.out _).mono ?_
  rintro e w7 ⟨rfl, ht7⟩
  have HB7 := Lib.hid (HB6.out.step ht7 id)
  have HI7 := Lib.hid (HI6.out.step ht7 id)
  have HS7 := Lib.hid (HS6.out.quiet ht7)
  have HT7 := Lib.hid (HT6.out.trans' ht7 (fun _ h => h.elim))
  clear ht7 HB6 HI6 HS6 HT6 HC
  have x0 := HI7.out.cell 0
  simp [insA] at x0
  go_wp2_with fail
  refine (aunless_ok _ _ _).mono ?_
  rintro e w8 ⟨rfl, hw8⟩
  obtain rfl : w7 = w8 := hw8.symm
  go_wp2_with fail
  refine (at_walk _ X S D c bs k1 HS7.out).mono ?_
  rintro e w8 ⟨rfl, hw8⟩
  obtain rfl : w7 = w8 := hw8.symm
  go_wp2_with fail
  refine (HO.out _).mono ?_
  rintro e w8 ⟨rfl, ht8⟩
  have HB8 := Lib.hid (HB7.out.step ht8 id)
  have HI8 := Lib.hid (HI7.out.step ht8 id)
  have HS8 := Lib.hid (HS7.out.quiet ht8)
  have HT8 := Lib.hid (HT7.out.trans' ht8 (fun _ h => h.elim))
  clear ht8 HB7 HI7 HS7 HT7 HO x0
  have hfd := field_imm i m
  simp only [infM]
  have m0 : (m == 0) = false := by simp; omega
  have m1 : (m == 1) = false := by simp; omega
  have m3 : (m == 3) = false := by simp; omega
  have m5 : (m == 5) = false := by simp; omega
  have m8 : (m == 8) = false := by simp; omega
  have m9 : (m == 9) = false := by simp; omega
  have m10 : (m == 10) = false := by simp; omega
  have m11 : (m == 11) = false := by simp; omega
  go_wp2_with fail
  refine (index_any _ X S D c bs k1 HS8.out).mono ?_
  intro e w9 hp
  cases hr : idxF bs k1 with
  | er y a =>
    have HE9 := Lib.hid hr
    rw [hr] at hp
    clear hr
    obtain ⟨rfl, ht⟩ := hp
    refine ⟨rfl, ?_⟩
    rw [show RR = Rs.er y a from (by rw [HRR.out]; simp only [HE9.out])]
    exact ⟨rfl, HT8.out.trans ht⟩
  | ok a p9 =>
    have HE9 := Lib.hid hr
    have hlt9 := idxF_lt hr
    rw [hr] at hp
    clear hr
    obtain ⟨rfl, hs, ht⟩ := hp
    have HB9 := Lib.hid (HB8.out.step ht hRX)
    have HI9 := Lib.hid (HI8.out.step ht hIX)
    have HS9 := Lib.hid hs
    have HT9 := Lib.hid (HT8.out.trans ht)
    clear hs ht HB8 HI8 HS8 HT8
    have hu := IntWalk.u64_in (a : Int) (by omega)
    have zz10 := HI9.out.frozen 1
    have cc10 := HI9.out.cell 1
    simp [insA] at cc10
    have HI10 : Hid (Blk (w9.setCell ⟨I, 1, none⟩ (.int .u64 (a : Int))) I 50 #[.int .u8 (op : Int), .int .u64 (a : Int), .int .u64 0, .slice none 0 0]) := by
      have hq := HI9.out.set_ 1 (.int .u64 (a : Int))
      simp [insA] at hq
      exact hq
    have HB10 := Lib.hid (HB9.out.far (p := ⟨I, 1, none⟩) hRI2 (.int .u64 (a : Int)))
    have hst10 : Step (fun j => j = I) w9 (w9.setCell ⟨I, 1, none⟩ (.int .u64 (a : Int))) := (Step.refl (F := fun j => j = I)).setCell (p := ⟨I, 1, none⟩) (.inl rfl) _
    have HS10 := Lib.hid (HS9.out.step hst10 (Ne.symm hIX) hIS)
    have HT10 := Lib.hid (HT9.out.setCell (p := ⟨I, 1, none⟩) (.inr hIw) (.int .u64 (a : Int)))
    have y0 := HI10.out.cell 0
    have y1 := HI10.out.cell 1
    have y2 := HI10.out.cell 2
    have y3 := HI10.out.cell 3
    simp [insA] at y0 y1 y2 y3
    have hone : (#[.int .u8 (op : Int), .int .u64 (a : Int), .int .u64 0, .slice none 0 0] : Array Value).all (·.oneCell') = true := by simp [Value.oneCell']
    have hbl := HB10.out
    go_wp2_with (refine wpList_store_rowTo rfl 50 _ _ rfl rfl R #[.int .u8 (op : Int), .int .u64 (a : Int), .int .u64 0, .slice none 0 0] rfl rfl 50 _ hbl rfl rfl hone ?_)
    have r0 := (hbl.row #[.int .u8 (op : Int), .int .u64 (a : Int), .int .u64 0, .slice none 0 0]).cell 0
    have r1 := (hbl.row #[.int .u8 (op : Int), .int .u64 (a : Int), .int .u64 0, .slice none 0 0]).cell 1
    have r2 := (hbl.row #[.int .u8 (op : Int), .int .u64 (a : Int), .int .u64 0, .slice none 0 0]).cell 2
    have r3 := (hbl.row #[.int .u8 (op : Int), .int .u64 (a : Int), .int .u64 0, .slice none 0 0]).cell 3
    simp at r0 r1 r2 r3
    have hSF := HS10.out.step (Step.setRow (F := fun j => j = R) Step.refl (g := R) (.inl rfl) #[.int .u8 (op : Int), .int .u64 (a : Int), .int .u64 0, .slice none 0 0]) (Ne.symm hRX) hRS
    have hTF := HT10.out.setRow (g := R) (.inr hRw) #[.int .u8 (op : Int), .int .u64 (a : Int), .int .u64 0, .slice none 0 0]
    refine bodyPost_ret (v := .agg #[.int .u8 (op : Int), .int .u64 (a : Int), .int .u64 0, .slice none 0 0]) (by simp [results, Try.results142, go_sem, r0, r1, r2, r3]) rfl ?_
    rw [show RR = Rs.ok (op, a, 0, []) p9 from (by rw [HRR.out]; simp only [HE9.out])]
    exact ⟨none, 0, rfl, World.ownsRow_nil _ _ _ _, hSF, hTF⟩

set_option maxRecDepth 100000 in
set_option maxHeartbeats 3200000 in
theorem gany_9 (w : World) (X : Nat) (S : Nat → Prop) (D : Option Addr) (c : Nat) (bs : List UInt8) (k : Nat) (h : Scn w X S D c bs k) (op k1 : Nat) (i : Inf) (hby : byF bs k = .ok op k1) (hck : chkF op = 0) (RR : Rs (Nat × Nat × Nat × List Nat)) (HRR : Hid (RR = match byF bs k1 with | .er y a => .er y a | .ok z k2 => if z = 0 then .ok (op, 0, 0, []) k2 else .er 10 k1))
    (HO : Hid (∀ w, Calls Try.prog 25 #[.int .u8 (op : Int)] w fun e w' => e = .returned (infM i 9) ∧ Step (fun _ => False) w w')) :
    Calls Try.prog 142 #[.pointer (some ⟨X, 0, none⟩)] w (GetR X S D c bs w RR) := by
  have HBY : Hid (∀ w', Scn w' X S D c bs k → Calls Try.prog 144 #[.pointer (some ⟨X, 0, none⟩)] w' fun e w'' => e = .returned (.int .u8 (op : Int)) ∧ Scn w'' X S D c bs k1 ∧ Step (fun i => i = X) w' w'') := fun w' h' => by
    have h1 := byte_any w' X S D c bs k h'
    rw [hby] at h1
    exact h1
  have hop := byF_lt hby
  clear hby
  have HC : Hid (∀ w, Calls Try.prog 26 #[.int .u8 (op : Int)] w fun e w' => e = .returned (.int .i64 0) ∧ Step (fun _ => False) w w') := fun w => by
    have := check_walk w op hop
    rw [hck] at this
    exact this
  have hxl := h.lt
  have HH := Lib.hid h
  have hlow := h.low
  clear h
  have hone0 : (insA 0 0 0 (.slice none 0 0)).all (·.oneCell') = true := by simp [insA, Value.oneCell']
  go_enter Try.func142, Try.ntmps142
  go_wp2_with fail
  refine (at_walk _ X S D c bs k (HH.out.alloc _)).mono ?_
  rintro e w5 ⟨rfl, hw5⟩
  have HB5 := Lib.hid (Blk.new w 50 (insA 0 0 0 (.slice none 0 0)))
  have HS5 := Lib.hid (HH.out.alloc (.cells (insA 0 0 0 (.slice none 0 0)) 50))
  have HT5 := Lib.hid ((Step.refl (F := fun i => i = X)).alloc (w := w) (.cells (insA 0 0 0 (.slice none 0 0)) 50))
  rw [show w.alloc (.cells (insA 0 0 0 (.slice none 0 0)) 50) = w5 from hw5.symm] at HB5 HS5 HT5
  obtain ⟨R, hR⟩ : ∃ R, R = w.heap.size := ⟨_, rfl⟩
  have hRX : R ≠ X := by omega
  have hRw : w.heap.size ≤ R := by omega
  have hRS : ∀ j, S j → j ≠ R := fun j hj => by have := hlow j hj; omega
  rw [← hR] at HB5 ⊢
  clear hR hxl hw5 HH
  go_wp2_with fail
  refine (HBY.out _ HS5.out).mono ?_
  rintro e w6 ⟨rfl, hs6, ht6⟩
  have HB6 := Lib.hid ((HB5.out.step ht6 hRX).alloc (.cells (insA op 0 0 (.slice none 0 0)) 50))
  have HI6 := Lib.hid (Blk.new w6 50 (insA op 0 0 (.slice none 0 0)))
  have HS6 := Lib.hid (hs6.alloc (.cells (insA op 0 0 (.slice none 0 0)) 50))
  have HT6 := Lib.hid ((HT5.out.trans ht6).alloc (.cells (insA op 0 0 (.slice none 0 0)) 50))
  have hRI : R < w6.heap.size := by have := HB5.out.lt; have := ht6.size; omega
  have hXI : X < w6.heap.size := by have := HS5.out.lt; have := ht6.size; omega
  have hIw : w.heap.size ≤ w6.heap.size := (HT5.out.trans ht6).size
  clear hs6 ht6 HB5 HS5 HT5
  obtain ⟨I, hI⟩ : ∃ I, I = w6.heap.size := ⟨_, rfl⟩
  obtain ⟨W, hW⟩ : ∃ W, W = w6.alloc (.cells (insA op 0 0 (.slice none 0 0)) 50) := ⟨_, rfl⟩
  rw [← hI] at HI6 hRI hXI hIw
  have hIS : ∀ j, S j → j ≠ I := fun j hj => by have := hlow j hj; omega
  have hIX : I ≠ X := by omega
  have hRI2 : R ≠ I := by omega
  rw [← hW] at HB6 HI6 HS6 HT6
  have x0 := HI6.out.cell 0
  simp [insA] at x0
  rw [hW] at x0
  rw [hI] at x0
  go_wp2_with fail
  rw [show w6.alloc (.cells #[.int .u8 (op : Int), .int .u64 0, .int .u64 0, .slice none 0 0] 50) = W from hW.symm]
  rw [← hI]
  clear x0 hW hI
  refine (HC.out _).mono ?_
  rintro e w7 ⟨rfl, ht7⟩
  have HB7 := Lib.hid (HB6.out.step ht7 id)
  have HI7 := Lib.hid (HI6.out.step ht7 id)
  have HS7 := Lib.hid (HS6.out.quiet ht7)
  have HT7 := Lib.hid (HT6.out.trans' ht7 (fun _ h => h.elim))
  clear ht7 HB6 HI6 HS6 HT6 HC
  have x0 := HI7.out.cell 0
  simp [insA] at x0
  go_wp2_with fail
  refine (aunless_ok _ _ _).mono ?_
  rintro e w8 ⟨rfl, hw8⟩
  obtain rfl : w7 = w8 := hw8.symm
  go_wp2_with fail
  refine (at_walk _ X S D c bs k1 HS7.out).mono ?_
  rintro e w8 ⟨rfl, hw8⟩
  obtain rfl : w7 = w8 := hw8.symm
  go_wp2_with fail
  refine (HO.out _).mono ?_
  rintro e w8 ⟨rfl, ht8⟩
  have HB8 := Lib.hid (HB7.out.step ht8 id)
  have HI8 := Lib.hid (HI7.out.step ht8 id)
  have HS8 := Lib.hid (HS7.out.quiet ht8)
  have HT8 := Lib.hid (HT7.out.trans' ht8 (fun _ h => h.elim))
  clear ht8 HB7 HI7 HS7 HT7 HO x0
  have hfd := field_imm i 9
  simp only [infM]
  go_wp2_with fail
  refine (byte_any _ X S D c bs k1 HS8.out).mono ?_
  intro e w9 hp
  cases hr : byF bs k1 with
  | er y a =>
    have HE9 := Lib.hid hr
    rw [hr] at hp
    clear hr
    obtain ⟨rfl, ht⟩ := hp
    refine ⟨rfl, ?_⟩
    rw [show RR = Rs.er y a from (by rw [HRR.out]; simp only [HE9.out])]
    exact ⟨rfl, HT8.out.trans ht⟩
  | ok z p9 =>
    have HE9 := Lib.hid hr
    rw [hr] at hp
    clear hr
    obtain ⟨rfl, hs, ht⟩ := hp
    have HB9 := Lib.hid (HB8.out.step ht hRX)
    have HI9 := Lib.hid (HI8.out.step ht hIX)
    have HS9 := Lib.hid hs
    have HT9 := Lib.hid (HT8.out.trans ht)
    clear hs ht HB8 HI8 HS8 HT8
    by_cases hz : z = 0
    · have hzb : ((z : Int) == 0) = true := by simp; omega
      go_wp2_with fail
      refine (aunless_ok _ _ _).mono ?_
      rintro e wS ⟨rfl, hwS⟩
      subst wS
      have y0 := HI9.out.cell 0
      have y1 := HI9.out.cell 1
      have y2 := HI9.out.cell 2
      have y3 := HI9.out.cell 3
      simp [insA] at y0 y1 y2 y3
      have hone : (#[.int .u8 (op : Int), .int .u64 0, .int .u64 0, .slice none 0 0] : Array Value).all (·.oneCell') = true := by simp [Value.oneCell']
      have hbl := HB9.out
      go_wp2_with (refine wpList_store_rowTo rfl 50 _ _ rfl rfl R #[.int .u8 (op : Int), .int .u64 0, .int .u64 0, .slice none 0 0] rfl rfl 50 _ hbl rfl rfl hone ?_)
      have r0 := (hbl.row #[.int .u8 (op : Int), .int .u64 0, .int .u64 0, .slice none 0 0]).cell 0
      have r1 := (hbl.row #[.int .u8 (op : Int), .int .u64 0, .int .u64 0, .slice none 0 0]).cell 1
      have r2 := (hbl.row #[.int .u8 (op : Int), .int .u64 0, .int .u64 0, .slice none 0 0]).cell 2
      have r3 := (hbl.row #[.int .u8 (op : Int), .int .u64 0, .int .u64 0, .slice none 0 0]).cell 3
      simp at r0 r1 r2 r3
      have hSF := HS9.out.step (Step.setRow (F := fun j => j = R) Step.refl (g := R) (.inl rfl) #[.int .u8 (op : Int), .int .u64 0, .int .u64 0, .slice none 0 0]) (Ne.symm hRX) hRS
      have hTF := HT9.out.setRow (g := R) (.inr hRw) #[.int .u8 (op : Int), .int .u64 0, .int .u64 0, .slice none 0 0]
      refine bodyPost_ret (v := .agg #[.int .u8 (op : Int), .int .u64 0, .int .u64 0, .slice none 0 0]) (by simp [results, Try.results142, go_sem, r0, r1, r2, r3]) rfl ?_
      rw [show RR = Rs.ok (op, 0, 0, []) p9 from (by rw [HRR.out]; simp only [HE9.out, if_pos hz])]
      exact ⟨none, 0, rfl, World.ownsRow_nil _ _ _ _, hSF, hTF⟩
    · have hzb : ((z : Int) == 0) = false := by simp; omega
      go_wp2_with fail
      refine (unless_err _ _ _).mono ?_
      rintro e wS ⟨rfl, hS⟩
      refine ⟨rfl, ?_⟩
      rw [show RR = Rs.er 10 k1 from (by rw [HRR.out]; simp only [HE9.out, if_neg hz])]
      exact ⟨rfl, HT9.out.trans' hS (fun _ hf => hf.elim)⟩

set_option maxRecDepth 100000 in
set_option maxHeartbeats 3200000 in
theorem gany_1 (w : World) (X : Nat) (S : Nat → Prop) (D : Option Addr) (c : Nat) (bs : List UInt8) (k : Nat) (h : Scn w X S D c bs k) (op k1 : Nat) (i : Inf) (hby : byF bs k = .ok op k1) (hck : chkF op = 0) (RR : Rs (Nat × Nat × Nat × List Nat)) (HRR : Hid (RR = match byF bs k1 with | .er y a => .er y a | .ok a k2 => if blkF a = 0 then .ok (op, a, 0, []) k2 else .er (blkF a) k1))
    (HO : Hid (∀ w, Calls Try.prog 25 #[.int .u8 (op : Int)] w fun e w' => e = .returned (infM i 1) ∧ Step (fun _ => False) w w')) :
    Calls Try.prog 142 #[.pointer (some ⟨X, 0, none⟩)] w (GetR X S D c bs w RR) := by
  have HBY : Hid (∀ w', Scn w' X S D c bs k → Calls Try.prog 144 #[.pointer (some ⟨X, 0, none⟩)] w' fun e w'' => e = .returned (.int .u8 (op : Int)) ∧ Scn w'' X S D c bs k1 ∧ Step (fun i => i = X) w' w'') := fun w' h' => by
    have h1 := byte_any w' X S D c bs k h'
    rw [hby] at h1
    exact h1
  have hop := byF_lt hby
  clear hby
  have HC : Hid (∀ w, Calls Try.prog 26 #[.int .u8 (op : Int)] w fun e w' => e = .returned (.int .i64 0) ∧ Step (fun _ => False) w w') := fun w => by
    have := check_walk w op hop
    rw [hck] at this
    exact this
  have hxl := h.lt
  have HH := Lib.hid h
  have hlow := h.low
  clear h
  have hone0 : (insA 0 0 0 (.slice none 0 0)).all (·.oneCell') = true := by simp [insA, Value.oneCell']
  go_enter Try.func142, Try.ntmps142
  go_wp2_with fail
  refine (at_walk _ X S D c bs k (HH.out.alloc _)).mono ?_
  rintro e w5 ⟨rfl, hw5⟩
  have HB5 := Lib.hid (Blk.new w 50 (insA 0 0 0 (.slice none 0 0)))
  have HS5 := Lib.hid (HH.out.alloc (.cells (insA 0 0 0 (.slice none 0 0)) 50))
  have HT5 := Lib.hid ((Step.refl (F := fun i => i = X)).alloc (w := w) (.cells (insA 0 0 0 (.slice none 0 0)) 50))
  rw [show w.alloc (.cells (insA 0 0 0 (.slice none 0 0)) 50) = w5 from hw5.symm] at HB5 HS5 HT5
  obtain ⟨R, hR⟩ : ∃ R, R = w.heap.size := ⟨_, rfl⟩
  have hRX : R ≠ X := by omega
  have hRw : w.heap.size ≤ R := by omega
  have hRS : ∀ j, S j → j ≠ R := fun j hj => by have := hlow j hj; omega
  rw [← hR] at HB5 ⊢
  clear hR hxl hw5 HH
  go_wp2_with fail
  refine (HBY.out _ HS5.out).mono ?_
  rintro e w6 ⟨rfl, hs6, ht6⟩
  have HB6 := Lib.hid ((HB5.out.step ht6 hRX).alloc (.cells (insA op 0 0 (.slice none 0 0)) 50))
  have HI6 := Lib.hid (Blk.new w6 50 (insA op 0 0 (.slice none 0 0)))
  have HS6 := Lib.hid (hs6.alloc (.cells (insA op 0 0 (.slice none 0 0)) 50))
  have HT6 := Lib.hid ((HT5.out.trans ht6).alloc (.cells (insA op 0 0 (.slice none 0 0)) 50))
  have hRI : R < w6.heap.size := by have := HB5.out.lt; have := ht6.size; omega
  have hXI : X < w6.heap.size := by have := HS5.out.lt; have := ht6.size; omega
  have hIw : w.heap.size ≤ w6.heap.size := (HT5.out.trans ht6).size
  clear hs6 ht6 HB5 HS5 HT5
  obtain ⟨I, hI⟩ : ∃ I, I = w6.heap.size := ⟨_, rfl⟩
  obtain ⟨W, hW⟩ : ∃ W, W = w6.alloc (.cells (insA op 0 0 (.slice none 0 0)) 50) := ⟨_, rfl⟩
  rw [← hI] at HI6 hRI hXI hIw
  have hIS : ∀ j, S j → j ≠ I := fun j hj => by have := hlow j hj; omega
  have hIX : I ≠ X := by omega
  have hRI2 : R ≠ I := by omega
  rw [← hW] at HB6 HI6 HS6 HT6
  have x0 := HI6.out.cell 0
  simp [insA] at x0
  rw [hW] at x0
  rw [hI] at x0
  go_wp2_with fail
  rw [show w6.alloc (.cells #[.int .u8 (op : Int), .int .u64 0, .int .u64 0, .slice none 0 0] 50) = W from hW.symm]
  rw [← hI]
  clear x0 hW hI
  refine (HC.out _).mono ?_
  rintro e w7 ⟨rfl, ht7⟩
  have HB7 := Lib.hid (HB6.out.step ht7 id)
  have HI7 := Lib.hid (HI6.out.step ht7 id)
  have HS7 := Lib.hid (HS6.out.quiet ht7)
  have HT7 := Lib.hid (HT6.out.trans' ht7 (fun _ h => h.elim))
  clear ht7 HB6 HI6 HS6 HT6 HC
  have x0 := HI7.out.cell 0
  simp [insA] at x0
  go_wp2_with fail
  refine (aunless_ok _ _ _).mono ?_
  rintro e w8 ⟨rfl, hw8⟩
  obtain rfl : w7 = w8 := hw8.symm
  go_wp2_with fail
  refine (at_walk _ X S D c bs k1 HS7.out).mono ?_
  rintro e w8 ⟨rfl, hw8⟩
  obtain rfl : w7 = w8 := hw8.symm
  go_wp2_with fail
  refine (HO.out _).mono ?_
  rintro e w8 ⟨rfl, ht8⟩
  have HB8 := Lib.hid (HB7.out.step ht8 id)
  have HI8 := Lib.hid (HI7.out.step ht8 id)
  have HS8 := Lib.hid (HS7.out.quiet ht8)
  have HT8 := Lib.hid (HT7.out.trans' ht8 (fun _ h => h.elim))
  clear ht8 HB7 HI7 HS7 HT7 HO x0
  have hfd := field_imm i 1
  simp only [infM]
  go_wp2_with fail
  refine (byte_any _ X S D c bs k1 HS8.out).mono ?_
  intro e w9 hp
  cases hr : byF bs k1 with
  | er y a =>
    have HE9 := Lib.hid hr
    rw [hr] at hp
    clear hr
    obtain ⟨rfl, ht⟩ := hp
    refine ⟨rfl, ?_⟩
    rw [show RR = Rs.er y a from (by rw [HRR.out]; simp only [HE9.out])]
    exact ⟨rfl, HT8.out.trans ht⟩
  | ok a p9 =>
    have HE9 := Lib.hid hr
    have hlt9 := byF_lt hr
    rw [hr] at hp
    clear hr
    obtain ⟨rfl, hs, ht⟩ := hp
    have HB9 := Lib.hid (HB8.out.step ht hRX)
    have HI9 := Lib.hid (HI8.out.step ht hIX)
    have HS9 := Lib.hid hs
    have HT9 := Lib.hid (HT8.out.trans ht)
    clear hs ht HB8 HI8 HS8 HT8
    have hu := IntWalk.u64_in (a : Int) (by omega)
    have zz10 := HI9.out.frozen 1
    have cc10 := HI9.out.cell 1
    simp [insA] at cc10
    have HI10 : Hid (Blk (w9.setCell ⟨I, 1, none⟩ (.int .u64 (a : Int))) I 50 #[.int .u8 (op : Int), .int .u64 (a : Int), .int .u64 0, .slice none 0 0]) := by
      have hq := HI9.out.set_ 1 (.int .u64 (a : Int))
      simp [insA] at hq
      exact hq
    have HB10 := Lib.hid (HB9.out.far (p := ⟨I, 1, none⟩) hRI2 (.int .u64 (a : Int)))
    have hst10 : Step (fun j => j = I) w9 (w9.setCell ⟨I, 1, none⟩ (.int .u64 (a : Int))) := (Step.refl (F := fun j => j = I)).setCell (p := ⟨I, 1, none⟩) (.inl rfl) _
    have HS10 := Lib.hid (HS9.out.step hst10 (Ne.symm hIX) hIS)
    have HT10 := Lib.hid (HT9.out.setCell (p := ⟨I, 1, none⟩) (.inr hIw) (.int .u64 (a : Int)))
    have y0 := HI10.out.cell 0
    have y1 := HI10.out.cell 1
    have y2 := HI10.out.cell 2
    have y3 := HI10.out.cell 3
    simp [insA] at y0 y1 y2 y3
    obtain ⟨r, hr⟩ : ∃ r, r = blkF a := ⟨_, rfl⟩
    have HBK := Lib.hid (fun w => block_walk w a)
    rw [← hr] at HBK
    have hRx := Lib.hid hr
    clear hr
    go_wp2_with fail
    refine (HBK.out _).mono ?_
    rintro e wS ⟨rfl, rfl⟩
    by_cases hz : r = 0
    · subst hz
      go_wp2_with fail
      refine (aunless_ok _ _ _).mono ?_
      rintro e wS ⟨rfl, rfl⟩
      have y0 := HI10.out.cell 0
      have y1 := HI10.out.cell 1
      have y2 := HI10.out.cell 2
      have y3 := HI10.out.cell 3
      simp [insA] at y0 y1 y2 y3
      have hone : (#[.int .u8 (op : Int), .int .u64 (a : Int), .int .u64 0, .slice none 0 0] : Array Value).all (·.oneCell') = true := by simp [Value.oneCell']
      have hbl := HB10.out
      go_wp2_with (refine wpList_store_rowTo rfl 50 _ _ rfl rfl R #[.int .u8 (op : Int), .int .u64 (a : Int), .int .u64 0, .slice none 0 0] rfl rfl 50 _ hbl rfl rfl hone ?_)
      have r0 := (hbl.row #[.int .u8 (op : Int), .int .u64 (a : Int), .int .u64 0, .slice none 0 0]).cell 0
      have r1 := (hbl.row #[.int .u8 (op : Int), .int .u64 (a : Int), .int .u64 0, .slice none 0 0]).cell 1
      have r2 := (hbl.row #[.int .u8 (op : Int), .int .u64 (a : Int), .int .u64 0, .slice none 0 0]).cell 2
      have r3 := (hbl.row #[.int .u8 (op : Int), .int .u64 (a : Int), .int .u64 0, .slice none 0 0]).cell 3
      simp at r0 r1 r2 r3
      have hSF := HS10.out.step (Step.setRow (F := fun j => j = R) Step.refl (g := R) (.inl rfl) #[.int .u8 (op : Int), .int .u64 (a : Int), .int .u64 0, .slice none 0 0]) (Ne.symm hRX) hRS
      have hTF := HT10.out.setRow (g := R) (.inr hRw) #[.int .u8 (op : Int), .int .u64 (a : Int), .int .u64 0, .slice none 0 0]
      refine bodyPost_ret (v := .agg #[.int .u8 (op : Int), .int .u64 (a : Int), .int .u64 0, .slice none 0 0]) (by simp [results, Try.results142, go_sem, r0, r1, r2, r3]) rfl ?_
      rw [show RR = Rs.ok (op, a, 0, []) p9 from (by rw [HRR.out]; simp only [HE9.out, if_pos hRx.out.symm])]
      exact ⟨none, 0, rfl, World.ownsRow_nil _ _ _ _, hSF, hTF⟩
    · have hzb : ((r : Int) == 0) = false := by simp; omega
      go_wp2_with fail
      refine (unless_err _ _ _).mono ?_
      rintro e wS ⟨rfl, hS⟩
      refine ⟨rfl, ?_⟩
      have hzn : ¬ blkF a = 0 := by rw [← hRx.out]; exact hz
      rw [show RR = Rs.er (blkF a) k1 from (by rw [HRR.out]; simp only [HE9.out, if_neg hzn])]
      exact ⟨by rw [← hRx.out], HT10.out.trans' hS (fun _ hf => hf.elim)⟩

set_option maxRecDepth 100000 in
set_option maxHeartbeats 3200000 in
theorem gany_5 (w : World) (X : Nat) (S : Nat → Prop) (D : Option Addr) (c : Nat) (bs : List UInt8) (k : Nat) (h : Scn w X S D c bs k) (op k1 : Nat) (i : Inf) (hby : byF bs k = .ok op k1) (hck : chkF op = 0) (RR : Rs (Nat × Nat × Nat × List Nat)) (HRR : Hid (RR = match idxF bs k1 with | .er y a => .er y a | .ok a k2 => match byF bs k2 with | .er y a => .er y a | .ok z k3 => if z = 0 then .ok (op, a, 0, []) k3 else .er 10 k2))
    (HO : Hid (∀ w, Calls Try.prog 25 #[.int .u8 (op : Int)] w fun e w' => e = .returned (infM i 5) ∧ Step (fun _ => False) w w')) :
    Calls Try.prog 142 #[.pointer (some ⟨X, 0, none⟩)] w (GetR X S D c bs w RR) := by
  have HBY : Hid (∀ w', Scn w' X S D c bs k → Calls Try.prog 144 #[.pointer (some ⟨X, 0, none⟩)] w' fun e w'' => e = .returned (.int .u8 (op : Int)) ∧ Scn w'' X S D c bs k1 ∧ Step (fun i => i = X) w' w'') := fun w' h' => by
    have h1 := byte_any w' X S D c bs k h'
    rw [hby] at h1
    exact h1
  have hop := byF_lt hby
  clear hby
  have HC : Hid (∀ w, Calls Try.prog 26 #[.int .u8 (op : Int)] w fun e w' => e = .returned (.int .i64 0) ∧ Step (fun _ => False) w w') := fun w => by
    have := check_walk w op hop
    rw [hck] at this
    exact this
  have hxl := h.lt
  have HH := Lib.hid h
  have hlow := h.low
  clear h
  have hone0 : (insA 0 0 0 (.slice none 0 0)).all (·.oneCell') = true := by simp [insA, Value.oneCell']
  go_enter Try.func142, Try.ntmps142
  go_wp2_with fail
  refine (at_walk _ X S D c bs k (HH.out.alloc _)).mono ?_
  rintro e w5 ⟨rfl, hw5⟩
  have HB5 := Lib.hid (Blk.new w 50 (insA 0 0 0 (.slice none 0 0)))
  have HS5 := Lib.hid (HH.out.alloc (.cells (insA 0 0 0 (.slice none 0 0)) 50))
  have HT5 := Lib.hid ((Step.refl (F := fun i => i = X)).alloc (w := w) (.cells (insA 0 0 0 (.slice none 0 0)) 50))
  rw [show w.alloc (.cells (insA 0 0 0 (.slice none 0 0)) 50) = w5 from hw5.symm] at HB5 HS5 HT5
  obtain ⟨R, hR⟩ : ∃ R, R = w.heap.size := ⟨_, rfl⟩
  have hRX : R ≠ X := by omega
  have hRw : w.heap.size ≤ R := by omega
  have hRS : ∀ j, S j → j ≠ R := fun j hj => by have := hlow j hj; omega
  rw [← hR] at HB5 ⊢
  clear hR hxl hw5 HH
  go_wp2_with fail
  refine (HBY.out _ HS5.out).mono ?_
  rintro e w6 ⟨rfl, hs6, ht6⟩
  have HB6 := Lib.hid ((HB5.out.step ht6 hRX).alloc (.cells (insA op 0 0 (.slice none 0 0)) 50))
  have HI6 := Lib.hid (Blk.new w6 50 (insA op 0 0 (.slice none 0 0)))
  have HS6 := Lib.hid (hs6.alloc (.cells (insA op 0 0 (.slice none 0 0)) 50))
  have HT6 := Lib.hid ((HT5.out.trans ht6).alloc (.cells (insA op 0 0 (.slice none 0 0)) 50))
  have hRI : R < w6.heap.size := by have := HB5.out.lt; have := ht6.size; omega
  have hXI : X < w6.heap.size := by have := HS5.out.lt; have := ht6.size; omega
  have hIw : w.heap.size ≤ w6.heap.size := (HT5.out.trans ht6).size
  clear hs6 ht6 HB5 HS5 HT5
  obtain ⟨I, hI⟩ : ∃ I, I = w6.heap.size := ⟨_, rfl⟩
  obtain ⟨W, hW⟩ : ∃ W, W = w6.alloc (.cells (insA op 0 0 (.slice none 0 0)) 50) := ⟨_, rfl⟩
  rw [← hI] at HI6 hRI hXI hIw
  have hIS : ∀ j, S j → j ≠ I := fun j hj => by have := hlow j hj; omega
  have hIX : I ≠ X := by omega
  have hRI2 : R ≠ I := by omega
  rw [← hW] at HB6 HI6 HS6 HT6
  have x0 := HI6.out.cell 0
  simp [insA] at x0
  rw [hW] at x0
  rw [hI] at x0
  go_wp2_with fail
  rw [show w6.alloc (.cells #[.int .u8 (op : Int), .int .u64 0, .int .u64 0, .slice none 0 0] 50) = W from hW.symm]
  rw [← hI]
  clear x0 hW hI
  refine (HC.out _).mono ?_
  rintro e w7 ⟨rfl, ht7⟩
  have HB7 := Lib.hid (HB6.out.step ht7 id)
  have HI7 := Lib.hid (HI6.out.step ht7 id)
  have HS7 := Lib.hid (HS6.out.quiet ht7)
  have HT7 := Lib.hid (HT6.out.trans' ht7 (fun _ h => h.elim))
  clear ht7 HB6 HI6 HS6 HT6 HC
  have x0 := HI7.out.cell 0
  simp [insA] at x0
  go_wp2_with fail
  refine (aunless_ok _ _ _).mono ?_
  rintro e w8 ⟨rfl, hw8⟩
  obtain rfl : w7 = w8 := hw8.symm
  go_wp2_with fail
  refine (at_walk _ X S D c bs k1 HS7.out).mono ?_
  rintro e w8 ⟨rfl, hw8⟩
  obtain rfl : w7 = w8 := hw8.symm
  go_wp2_with fail
  refine (HO.out _).mono ?_
  rintro e w8 ⟨rfl, ht8⟩
  have HB8 := Lib.hid (HB7.out.step ht8 id)
  have HI8 := Lib.hid (HI7.out.step ht8 id)
  have HS8 := Lib.hid (HS7.out.quiet ht8)
  have HT8 := Lib.hid (HT7.out.trans' ht8 (fun _ h => h.elim))
  clear ht8 HB7 HI7 HS7 HT7 HO x0
  have hfd := field_imm i 5
  simp only [infM]
  go_wp2_with fail
  refine (index_any _ X S D c bs k1 HS8.out).mono ?_
  intro e w9 hp
  cases hr : idxF bs k1 with
  | er y a =>
    have HE9 := Lib.hid hr
    rw [hr] at hp
    clear hr
    obtain ⟨rfl, ht⟩ := hp
    refine ⟨rfl, ?_⟩
    rw [show RR = Rs.er y a from (by rw [HRR.out]; simp only [HE9.out])]
    exact ⟨rfl, HT8.out.trans ht⟩
  | ok a p9 =>
    have HE9 := Lib.hid hr
    have hlt9 := idxF_lt hr
    rw [hr] at hp
    clear hr
    obtain ⟨rfl, hs, ht⟩ := hp
    have HB9 := Lib.hid (HB8.out.step ht hRX)
    have HI9 := Lib.hid (HI8.out.step ht hIX)
    have HS9 := Lib.hid hs
    have HT9 := Lib.hid (HT8.out.trans ht)
    clear hs ht HB8 HI8 HS8 HT8
    have hu := IntWalk.u64_in (a : Int) (by omega)
    have zz10 := HI9.out.frozen 1
    have cc10 := HI9.out.cell 1
    simp [insA] at cc10
    have HI10 : Hid (Blk (w9.setCell ⟨I, 1, none⟩ (.int .u64 (a : Int))) I 50 #[.int .u8 (op : Int), .int .u64 (a : Int), .int .u64 0, .slice none 0 0]) := by
      have hq := HI9.out.set_ 1 (.int .u64 (a : Int))
      simp [insA] at hq
      exact hq
    have HB10 := Lib.hid (HB9.out.far (p := ⟨I, 1, none⟩) hRI2 (.int .u64 (a : Int)))
    have hst10 : Step (fun j => j = I) w9 (w9.setCell ⟨I, 1, none⟩ (.int .u64 (a : Int))) := (Step.refl (F := fun j => j = I)).setCell (p := ⟨I, 1, none⟩) (.inl rfl) _
    have HS10 := Lib.hid (HS9.out.step hst10 (Ne.symm hIX) hIS)
    have HT10 := Lib.hid (HT9.out.setCell (p := ⟨I, 1, none⟩) (.inr hIw) (.int .u64 (a : Int)))
    go_wp2_with fail
    refine (at_walk _ X S D c bs _ HS10.out).mono ?_
    rintro e wS ⟨rfl, rfl⟩
    go_wp2_with fail
    refine (byte_any _ X S D c bs p9 HS10.out).mono ?_
    intro e w11 hp
    cases hr : byF bs p9 with
    | er y a =>
      have HE11 := Lib.hid hr
      rw [hr] at hp
      clear hr
      obtain ⟨rfl, ht⟩ := hp
      refine ⟨rfl, ?_⟩
      rw [show RR = Rs.er y a from (by rw [HRR.out]; simp only [HE9.out, HE11.out])]
      exact ⟨rfl, HT10.out.trans ht⟩
    | ok z p11 =>
      have HE11 := Lib.hid hr
      rw [hr] at hp
      clear hr
      obtain ⟨rfl, hs, ht⟩ := hp
      have HB11 := Lib.hid (HB10.out.step ht hRX)
      have HI11 := Lib.hid (HI10.out.step ht hIX)
      have HS11 := Lib.hid hs
      have HT11 := Lib.hid (HT10.out.trans ht)
      clear hs ht HB10 HI10 HS10 HT10
      by_cases hz : z = 0
      · have hzb : ((z : Int) == 0) = true := by simp; omega
        go_wp2_with fail
        refine (aunless_ok _ _ _).mono ?_
        rintro e wS ⟨rfl, hwS⟩
        subst wS
        have y0 := HI11.out.cell 0
        have y1 := HI11.out.cell 1
        have y2 := HI11.out.cell 2
        have y3 := HI11.out.cell 3
        simp [insA] at y0 y1 y2 y3
        have hone : (#[.int .u8 (op : Int), .int .u64 (a : Int), .int .u64 0, .slice none 0 0] : Array Value).all (·.oneCell') = true := by simp [Value.oneCell']
        have hbl := HB11.out
        go_wp2_with (refine wpList_store_rowTo rfl 50 _ _ rfl rfl R #[.int .u8 (op : Int), .int .u64 (a : Int), .int .u64 0, .slice none 0 0] rfl rfl 50 _ hbl rfl rfl hone ?_)
        have r0 := (hbl.row #[.int .u8 (op : Int), .int .u64 (a : Int), .int .u64 0, .slice none 0 0]).cell 0
        have r1 := (hbl.row #[.int .u8 (op : Int), .int .u64 (a : Int), .int .u64 0, .slice none 0 0]).cell 1
        have r2 := (hbl.row #[.int .u8 (op : Int), .int .u64 (a : Int), .int .u64 0, .slice none 0 0]).cell 2
        have r3 := (hbl.row #[.int .u8 (op : Int), .int .u64 (a : Int), .int .u64 0, .slice none 0 0]).cell 3
        simp at r0 r1 r2 r3
        have hSF := HS11.out.step (Step.setRow (F := fun j => j = R) Step.refl (g := R) (.inl rfl) #[.int .u8 (op : Int), .int .u64 (a : Int), .int .u64 0, .slice none 0 0]) (Ne.symm hRX) hRS
        have hTF := HT11.out.setRow (g := R) (.inr hRw) #[.int .u8 (op : Int), .int .u64 (a : Int), .int .u64 0, .slice none 0 0]
        refine bodyPost_ret (v := .agg #[.int .u8 (op : Int), .int .u64 (a : Int), .int .u64 0, .slice none 0 0]) (by simp [results, Try.results142, go_sem, r0, r1, r2, r3]) rfl ?_
        rw [show RR = Rs.ok (op, a, 0, []) p11 from (by rw [HRR.out]; simp only [HE9.out, HE11.out, if_pos hz])]
        exact ⟨none, 0, rfl, World.ownsRow_nil _ _ _ _, hSF, hTF⟩
      · have hzb : ((z : Int) == 0) = false := by simp; omega
        go_wp2_with fail
        refine (unless_err _ _ _).mono ?_
        rintro e wS ⟨rfl, hS⟩
        refine ⟨rfl, ?_⟩
        rw [show RR = Rs.er 10 p9 from (by rw [HRR.out]; simp only [HE9.out, HE11.out, if_neg hz])]
        exact ⟨rfl, HT11.out.trans' hS (fun _ hf => hf.elim)⟩

set_option maxRecDepth 100000 in
set_option maxHeartbeats 3200000 in
theorem gany_8 (w : World) (X : Nat) (S : Nat → Prop) (D : Option Addr) (c : Nat) (bs : List UInt8) (k : Nat) (h : Scn w X S D c bs k) (op k1 : Nat) (i : Inf) (hby : byF bs k = .ok op k1) (hck : chkF op = 0) (RR : Rs (Nat × Nat × Nat × List Nat)) (HRR : Hid (RR = match idxF bs k1 with | .er y a => .er y a | .ok a k2 => match idxF bs k2 with | .er y a => .er y a | .ok b k3 => .ok (op, a, b, []) k3))
    (HO : Hid (∀ w, Calls Try.prog 25 #[.int .u8 (op : Int)] w fun e w' => e = .returned (infM i 8) ∧ Step (fun _ => False) w w')) :
    Calls Try.prog 142 #[.pointer (some ⟨X, 0, none⟩)] w (GetR X S D c bs w RR) := by
  have HBY : Hid (∀ w', Scn w' X S D c bs k → Calls Try.prog 144 #[.pointer (some ⟨X, 0, none⟩)] w' fun e w'' => e = .returned (.int .u8 (op : Int)) ∧ Scn w'' X S D c bs k1 ∧ Step (fun i => i = X) w' w'') := fun w' h' => by
    have h1 := byte_any w' X S D c bs k h'
    rw [hby] at h1
    exact h1
  have hop := byF_lt hby
  clear hby
  have HC : Hid (∀ w, Calls Try.prog 26 #[.int .u8 (op : Int)] w fun e w' => e = .returned (.int .i64 0) ∧ Step (fun _ => False) w w') := fun w => by
    have := check_walk w op hop
    rw [hck] at this
    exact this
  have hxl := h.lt
  have HH := Lib.hid h
  have hlow := h.low
  clear h
  have hone0 : (insA 0 0 0 (.slice none 0 0)).all (·.oneCell') = true := by simp [insA, Value.oneCell']
  go_enter Try.func142, Try.ntmps142
  go_wp2_with fail
  refine (at_walk _ X S D c bs k (HH.out.alloc _)).mono ?_
  rintro e w5 ⟨rfl, hw5⟩
  have HB5 := Lib.hid (Blk.new w 50 (insA 0 0 0 (.slice none 0 0)))
  have HS5 := Lib.hid (HH.out.alloc (.cells (insA 0 0 0 (.slice none 0 0)) 50))
  have HT5 := Lib.hid ((Step.refl (F := fun i => i = X)).alloc (w := w) (.cells (insA 0 0 0 (.slice none 0 0)) 50))
  rw [show w.alloc (.cells (insA 0 0 0 (.slice none 0 0)) 50) = w5 from hw5.symm] at HB5 HS5 HT5
  obtain ⟨R, hR⟩ : ∃ R, R = w.heap.size := ⟨_, rfl⟩
  have hRX : R ≠ X := by omega
  have hRw : w.heap.size ≤ R := by omega
  have hRS : ∀ j, S j → j ≠ R := fun j hj => by have := hlow j hj; omega
  rw [← hR] at HB5 ⊢
  clear hR hxl hw5 HH
  go_wp2_with fail
  refine (HBY.out _ HS5.out).mono ?_
  rintro e w6 ⟨rfl, hs6, ht6⟩
  have HB6 := Lib.hid ((HB5.out.step ht6 hRX).alloc (.cells (insA op 0 0 (.slice none 0 0)) 50))
  have HI6 := Lib.hid (Blk.new w6 50 (insA op 0 0 (.slice none 0 0)))
  have HS6 := Lib.hid (hs6.alloc (.cells (insA op 0 0 (.slice none 0 0)) 50))
  have HT6 := Lib.hid ((HT5.out.trans ht6).alloc (.cells (insA op 0 0 (.slice none 0 0)) 50))
  have hRI : R < w6.heap.size := by have := HB5.out.lt; have := ht6.size; omega
  have hXI : X < w6.heap.size := by have := HS5.out.lt; have := ht6.size; omega
  have hIw : w.heap.size ≤ w6.heap.size := (HT5.out.trans ht6).size
  clear hs6 ht6 HB5 HS5 HT5
  obtain ⟨I, hI⟩ : ∃ I, I = w6.heap.size := ⟨_, rfl⟩
  obtain ⟨W, hW⟩ : ∃ W, W = w6.alloc (.cells (insA op 0 0 (.slice none 0 0)) 50) := ⟨_, rfl⟩
  rw [← hI] at HI6 hRI hXI hIw
  have hIS : ∀ j, S j → j ≠ I := fun j hj => by have := hlow j hj; omega
  have hIX : I ≠ X := by omega
  have hRI2 : R ≠ I := by omega
  rw [← hW] at HB6 HI6 HS6 HT6
  have x0 := HI6.out.cell 0
  simp [insA] at x0
  rw [hW] at x0
  rw [hI] at x0
  go_wp2_with fail
  rw [show w6.alloc (.cells #[.int .u8 (op : Int), .int .u64 0, .int .u64 0, .slice none 0 0] 50) = W from hW.symm]
  rw [← hI]
  clear x0 hW hI
  refine (HC.out _).mono ?_
  rintro e w7 ⟨rfl, ht7⟩
  have HB7 := Lib.hid (HB6.out.step ht7 id)
  have HI7 := Lib.hid (HI6.out.step ht7 id)
  have HS7 := Lib.hid (HS6.out.quiet ht7)
  have HT7 := Lib.hid (HT6.out.trans' ht7 (fun _ h => h.elim))
  clear ht7 HB6 HI6 HS6 HT6 HC
  have x0 := HI7.out.cell 0
  simp [insA] at x0
  go_wp2_with fail
  refine (aunless_ok _ _ _).mono ?_
  rintro e w8 ⟨rfl, hw8⟩
  obtain rfl : w7 = w8 := hw8.symm
  go_wp2_with fail
  refine (at_walk _ X S D c bs k1 HS7.out).mono ?_
  rintro e w8 ⟨rfl, hw8⟩
  obtain rfl : w7 = w8 := hw8.symm
  go_wp2_with fail
  refine (HO.out _).mono ?_
  rintro e w8 ⟨rfl, ht8⟩
  have HB8 := Lib.hid (HB7.out.step ht8 id)
  have HI8 := Lib.hid (HI7.out.step ht8 id)
  have HS8 := Lib.hid (HS7.out.quiet ht8)
  have HT8 := Lib.hid (HT7.out.trans' ht8 (fun _ h => h.elim))
  clear ht8 HB7 HI7 HS7 HT7 HO x0
  have hfd := field_imm i 8
  simp only [infM]
  go_wp2_with fail
  refine (index_any _ X S D c bs k1 HS8.out).mono ?_
  intro e w9 hp
  cases hr : idxF bs k1 with
  | er y a =>
    have HE9 := Lib.hid hr
    rw [hr] at hp
    clear hr
    obtain ⟨rfl, ht⟩ := hp
    refine ⟨rfl, ?_⟩
    rw [show RR = Rs.er y a from (by rw [HRR.out]; simp only [HE9.out])]
    exact ⟨rfl, HT8.out.trans ht⟩
  | ok a p9 =>
    have HE9 := Lib.hid hr
    have hlt9 := idxF_lt hr
    rw [hr] at hp
    clear hr
    obtain ⟨rfl, hs, ht⟩ := hp
    have HB9 := Lib.hid (HB8.out.step ht hRX)
    have HI9 := Lib.hid (HI8.out.step ht hIX)
    have HS9 := Lib.hid hs
    have HT9 := Lib.hid (HT8.out.trans ht)
    clear hs ht HB8 HI8 HS8 HT8
    go_wp2_with fail
    refine (index_any _ X S D c bs p9 HS9.out).mono ?_
    intro e w10 hp
    cases hr : idxF bs p9 with
    | er y a =>
      have HE10 := Lib.hid hr
      rw [hr] at hp
      clear hr
      obtain ⟨rfl, ht⟩ := hp
      refine ⟨rfl, ?_⟩
      rw [show RR = Rs.er y a from (by rw [HRR.out]; simp only [HE9.out, HE10.out])]
      exact ⟨rfl, HT9.out.trans ht⟩
    | ok b p10 =>
      have HE10 := Lib.hid hr
      have hlt10 := idxF_lt hr
      rw [hr] at hp
      clear hr
      obtain ⟨rfl, hs, ht⟩ := hp
      have HB10 := Lib.hid (HB9.out.step ht hRX)
      have HI10 := Lib.hid (HI9.out.step ht hIX)
      have HS10 := Lib.hid hs
      have HT10 := Lib.hid (HT9.out.trans ht)
      clear hs ht HB9 HI9 HS9 HT9
      have hu := IntWalk.u64_in (a : Int) (by omega)
      have hu2 := IntWalk.u64_in (b : Int) (by omega)
      have zz11 := HI10.out.frozen 1
      have cc11 := HI10.out.cell 1
      simp [insA] at cc11
      have HI11 : Hid (Blk (w10.setCell ⟨I, 1, none⟩ (.int .u64 (a : Int))) I 50 #[.int .u8 (op : Int), .int .u64 (a : Int), .int .u64 0, .slice none 0 0]) := by
        have hq := HI10.out.set_ 1 (.int .u64 (a : Int))
        simp [insA] at hq
        exact hq
      have HB11 := Lib.hid (HB10.out.far (p := ⟨I, 1, none⟩) hRI2 (.int .u64 (a : Int)))
      have hst11 : Step (fun j => j = I) w10 (w10.setCell ⟨I, 1, none⟩ (.int .u64 (a : Int))) := (Step.refl (F := fun j => j = I)).setCell (p := ⟨I, 1, none⟩) (.inl rfl) _
      have HS11 := Lib.hid (HS10.out.step hst11 (Ne.symm hIX) hIS)
      have HT11 := Lib.hid (HT10.out.setCell (p := ⟨I, 1, none⟩) (.inr hIw) (.int .u64 (a : Int)))
      have zz12 := HI11.out.frozen 2
      have cc12 := HI11.out.cell 2
      simp [insA] at cc12
      have HI12 : Hid (Blk ((w10.setCell ⟨I, 1, none⟩ (.int .u64 (a : Int))).setCell ⟨I, 2, none⟩ (.int .u64 (b : Int))) I 50 #[.int .u8 (op : Int), .int .u64 (a : Int), .int .u64 (b : Int), .slice none 0 0]) := by
        have hq := HI11.out.set_ 2 (.int .u64 (b : Int))
        simp [insA] at hq
        exact hq
      have HB12 := Lib.hid (HB11.out.far (p := ⟨I, 2, none⟩) hRI2 (.int .u64 (b : Int)))
      have hst12 : Step (fun j => j = I) (w10.setCell ⟨I, 1, none⟩ (.int .u64 (a : Int))) ((w10.setCell ⟨I, 1, none⟩ (.int .u64 (a : Int))).setCell ⟨I, 2, none⟩ (.int .u64 (b : Int))) := (Step.refl (F := fun j => j = I)).setCell (p := ⟨I, 2, none⟩) (.inl rfl) _
      have HS12 := Lib.hid (HS11.out.step hst12 (Ne.symm hIX) hIS)
      have HT12 := Lib.hid (HT11.out.setCell (p := ⟨I, 2, none⟩) (.inr hIw) (.int .u64 (b : Int)))
      have y0 := HI12.out.cell 0
      have y1 := HI12.out.cell 1
      have y2 := HI12.out.cell 2
      have y3 := HI12.out.cell 3
      simp [insA] at y0 y1 y2 y3
      have hone : (#[.int .u8 (op : Int), .int .u64 (a : Int), .int .u64 (b : Int), .slice none 0 0] : Array Value).all (·.oneCell') = true := by simp [Value.oneCell']
      have hbl := HB12.out
      go_wp2_with (refine wpList_store_rowTo rfl 50 _ _ rfl rfl R #[.int .u8 (op : Int), .int .u64 (a : Int), .int .u64 (b : Int), .slice none 0 0] rfl rfl 50 _ hbl rfl rfl hone ?_)
      have r0 := (hbl.row #[.int .u8 (op : Int), .int .u64 (a : Int), .int .u64 (b : Int), .slice none 0 0]).cell 0
      have r1 := (hbl.row #[.int .u8 (op : Int), .int .u64 (a : Int), .int .u64 (b : Int), .slice none 0 0]).cell 1
      have r2 := (hbl.row #[.int .u8 (op : Int), .int .u64 (a : Int), .int .u64 (b : Int), .slice none 0 0]).cell 2
      have r3 := (hbl.row #[.int .u8 (op : Int), .int .u64 (a : Int), .int .u64 (b : Int), .slice none 0 0]).cell 3
      simp at r0 r1 r2 r3
      have hSF := HS12.out.step (Step.setRow (F := fun j => j = R) Step.refl (g := R) (.inl rfl) #[.int .u8 (op : Int), .int .u64 (a : Int), .int .u64 (b : Int), .slice none 0 0]) (Ne.symm hRX) hRS
      have hTF := HT12.out.setRow (g := R) (.inr hRw) #[.int .u8 (op : Int), .int .u64 (a : Int), .int .u64 (b : Int), .slice none 0 0]
      refine bodyPost_ret (v := .agg #[.int .u8 (op : Int), .int .u64 (a : Int), .int .u64 (b : Int), .slice none 0 0]) (by simp [results, Try.results142, go_sem, r0, r1, r2, r3]) rfl ?_
      rw [show RR = Rs.ok (op, a, b, []) p10 from (by rw [HRR.out]; simp only [HE9.out, HE10.out])]
      exact ⟨none, 0, rfl, World.ownsRow_nil _ _ _ _, hSF, hTF⟩

set_option maxRecDepth 100000 in
set_option maxHeartbeats 3200000 in
theorem gany_10 (w : World) (X : Nat) (S : Nat → Prop) (D : Option Addr) (c : Nat) (bs : List UInt8) (k : Nat) (h : Scn w X S D c bs k) (op k1 : Nat) (i : Inf) (hby : byF bs k = .ok op k1) (hck : chkF op = 0) (RR : Rs (Nat × Nat × Nat × List Nat)) (HRR : Hid (RR = match s32F bs k1 with | .er y a => .er y a | .ok v k2 => .ok (op, (v % 4294967296).toNat, 0, []) k2))
    (HO : Hid (∀ w, Calls Try.prog 25 #[.int .u8 (op : Int)] w fun e w' => e = .returned (infM i 10) ∧ Step (fun _ => False) w w')) :
    Calls Try.prog 142 #[.pointer (some ⟨X, 0, none⟩)] w (GetR X S D c bs w RR) := by
  have HBY : Hid (∀ w', Scn w' X S D c bs k → Calls Try.prog 144 #[.pointer (some ⟨X, 0, none⟩)] w' fun e w'' => e = .returned (.int .u8 (op : Int)) ∧ Scn w'' X S D c bs k1 ∧ Step (fun i => i = X) w' w'') := fun w' h' => by
    have h1 := byte_any w' X S D c bs k h'
    rw [hby] at h1
    exact h1
  have hop := byF_lt hby
  clear hby
  have HC : Hid (∀ w, Calls Try.prog 26 #[.int .u8 (op : Int)] w fun e w' => e = .returned (.int .i64 0) ∧ Step (fun _ => False) w w') := fun w => by
    have := check_walk w op hop
    rw [hck] at this
    exact this
  have hxl := h.lt
  have HH := Lib.hid h
  have hlow := h.low
  clear h
  have hone0 : (insA 0 0 0 (.slice none 0 0)).all (·.oneCell') = true := by simp [insA, Value.oneCell']
  go_enter Try.func142, Try.ntmps142
  go_wp2_with fail
  refine (at_walk _ X S D c bs k (HH.out.alloc _)).mono ?_
  rintro e w5 ⟨rfl, hw5⟩
  have HB5 := Lib.hid (Blk.new w 50 (insA 0 0 0 (.slice none 0 0)))
  have HS5 := Lib.hid (HH.out.alloc (.cells (insA 0 0 0 (.slice none 0 0)) 50))
  have HT5 := Lib.hid ((Step.refl (F := fun i => i = X)).alloc (w := w) (.cells (insA 0 0 0 (.slice none 0 0)) 50))
  rw [show w.alloc (.cells (insA 0 0 0 (.slice none 0 0)) 50) = w5 from hw5.symm] at HB5 HS5 HT5
  obtain ⟨R, hR⟩ : ∃ R, R = w.heap.size := ⟨_, rfl⟩
  have hRX : R ≠ X := by omega
  have hRw : w.heap.size ≤ R := by omega
  have hRS : ∀ j, S j → j ≠ R := fun j hj => by have := hlow j hj; omega
  rw [← hR] at HB5 ⊢
  clear hR hxl hw5 HH
  go_wp2_with fail
  refine (HBY.out _ HS5.out).mono ?_
  rintro e w6 ⟨rfl, hs6, ht6⟩
  have HB6 := Lib.hid ((HB5.out.step ht6 hRX).alloc (.cells (insA op 0 0 (.slice none 0 0)) 50))
  have HI6 := Lib.hid (Blk.new w6 50 (insA op 0 0 (.slice none 0 0)))
  have HS6 := Lib.hid (hs6.alloc (.cells (insA op 0 0 (.slice none 0 0)) 50))
  have HT6 := Lib.hid ((HT5.out.trans ht6).alloc (.cells (insA op 0 0 (.slice none 0 0)) 50))
  have hRI : R < w6.heap.size := by have := HB5.out.lt; have := ht6.size; omega
  have hXI : X < w6.heap.size := by have := HS5.out.lt; have := ht6.size; omega
  have hIw : w.heap.size ≤ w6.heap.size := (HT5.out.trans ht6).size
  clear hs6 ht6 HB5 HS5 HT5
  obtain ⟨I, hI⟩ : ∃ I, I = w6.heap.size := ⟨_, rfl⟩
  obtain ⟨W, hW⟩ : ∃ W, W = w6.alloc (.cells (insA op 0 0 (.slice none 0 0)) 50) := ⟨_, rfl⟩
  rw [← hI] at HI6 hRI hXI hIw
  have hIS : ∀ j, S j → j ≠ I := fun j hj => by have := hlow j hj; omega
  have hIX : I ≠ X := by omega
  have hRI2 : R ≠ I := by omega
  rw [← hW] at HB6 HI6 HS6 HT6
  have x0 := HI6.out.cell 0
  simp [insA] at x0
  rw [hW] at x0
  rw [hI] at x0
  go_wp2_with fail
  rw [show w6.alloc (.cells #[.int .u8 (op : Int), .int .u64 0, .int .u64 0, .slice none 0 0] 50) = W from hW.symm]
  rw [← hI]
  clear x0 hW hI
  refine (HC.out _).mono ?_
  rintro e w7 ⟨rfl, ht7⟩
  have HB7 := Lib.hid (HB6.out.step ht7 id)
  have HI7 := Lib.hid (HI6.out.step ht7 id)
  have HS7 := Lib.hid (HS6.out.quiet ht7)
  have HT7 := Lib.hid (HT6.out.trans' ht7 (fun _ h => h.elim))
  clear ht7 HB6 HI6 HS6 HT6 HC
  have x0 := HI7.out.cell 0
  simp [insA] at x0
  go_wp2_with fail
  refine (aunless_ok _ _ _).mono ?_
  rintro e w8 ⟨rfl, hw8⟩
  obtain rfl : w7 = w8 := hw8.symm
  go_wp2_with fail
  refine (at_walk _ X S D c bs k1 HS7.out).mono ?_
  rintro e w8 ⟨rfl, hw8⟩
  obtain rfl : w7 = w8 := hw8.symm
  go_wp2_with fail
  refine (HO.out _).mono ?_
  rintro e w8 ⟨rfl, ht8⟩
  have HB8 := Lib.hid (HB7.out.step ht8 id)
  have HI8 := Lib.hid (HI7.out.step ht8 id)
  have HS8 := Lib.hid (HS7.out.quiet ht8)
  have HT8 := Lib.hid (HT7.out.trans' ht8 (fun _ h => h.elim))
  clear ht8 HB7 HI7 HS7 HT7 HO x0
  have hfd := field_imm i 10
  simp only [infM]
  go_wp2_with fail
  refine (int32_any _ X S D c bs k1 HS8.out).mono ?_
  intro e w9 hp
  cases hr : s32F bs k1 with
  | er y a =>
    have HE9 := Lib.hid hr
    rw [hr] at hp
    clear hr
    obtain ⟨rfl, ht⟩ := hp
    refine ⟨rfl, ?_⟩
    rw [show RR = Rs.er y a from (by rw [HRR.out]; simp only [HE9.out])]
    exact ⟨rfl, HT8.out.trans ht⟩
  | ok v p9 =>
    have HE9 := Lib.hid hr
    rw [hr] at hp
    clear hr
    obtain ⟨rfl, hs, ht⟩ := hp
    have HB9 := Lib.hid (HB8.out.step ht hRX)
    have HI9 := Lib.hid (HI8.out.step ht hIX)
    have HS9 := Lib.hid hs
    have HT9 := Lib.hid (HT8.out.trans ht)
    clear hs ht HB8 HI8 HS8 HT8
    have hs2 : IntKind.u32.wrap v = (((v % 4294967296).toNat : Nat) : Int) := by rw [IntKind.wrap_u32']; omega
    obtain ⟨a, ha⟩ : ∃ a, a = (v % 4294967296).toNat := ⟨_, rfl⟩
    have hal : a < 4294967296 := by omega
    rw [← ha] at hs2
    have HA := Lib.hid ha
    clear ha
    have hu := IntWalk.u64_in (a : Int) (by omega)
    have zz10 := HI9.out.frozen 1
    have cc10 := HI9.out.cell 1
    simp [insA] at cc10
    have HI10 : Hid (Blk (w9.setCell ⟨I, 1, none⟩ (.int .u64 (a : Int))) I 50 #[.int .u8 (op : Int), .int .u64 (a : Int), .int .u64 0, .slice none 0 0]) := by
      have hq := HI9.out.set_ 1 (.int .u64 (a : Int))
      simp [insA] at hq
      exact hq
    have HB10 := Lib.hid (HB9.out.far (p := ⟨I, 1, none⟩) hRI2 (.int .u64 (a : Int)))
    have hst10 : Step (fun j => j = I) w9 (w9.setCell ⟨I, 1, none⟩ (.int .u64 (a : Int))) := (Step.refl (F := fun j => j = I)).setCell (p := ⟨I, 1, none⟩) (.inl rfl) _
    have HS10 := Lib.hid (HS9.out.step hst10 (Ne.symm hIX) hIS)
    have HT10 := Lib.hid (HT9.out.setCell (p := ⟨I, 1, none⟩) (.inr hIw) (.int .u64 (a : Int)))
    have y0 := HI10.out.cell 0
    have y1 := HI10.out.cell 1
    have y2 := HI10.out.cell 2
    have y3 := HI10.out.cell 3
    simp [insA] at y0 y1 y2 y3
    have hone : (#[.int .u8 (op : Int), .int .u64 (a : Int), .int .u64 0, .slice none 0 0] : Array Value).all (·.oneCell') = true := by simp [Value.oneCell']
    have hbl := HB10.out
    go_wp2_with (refine wpList_store_rowTo rfl 50 _ _ rfl rfl R #[.int .u8 (op : Int), .int .u64 (a : Int), .int .u64 0, .slice none 0 0] rfl rfl 50 _ hbl rfl rfl hone ?_)
    have r0 := (hbl.row #[.int .u8 (op : Int), .int .u64 (a : Int), .int .u64 0, .slice none 0 0]).cell 0
    have r1 := (hbl.row #[.int .u8 (op : Int), .int .u64 (a : Int), .int .u64 0, .slice none 0 0]).cell 1
    have r2 := (hbl.row #[.int .u8 (op : Int), .int .u64 (a : Int), .int .u64 0, .slice none 0 0]).cell 2
    have r3 := (hbl.row #[.int .u8 (op : Int), .int .u64 (a : Int), .int .u64 0, .slice none 0 0]).cell 3
    simp at r0 r1 r2 r3
    have hSF := HS10.out.step (Step.setRow (F := fun j => j = R) Step.refl (g := R) (.inl rfl) #[.int .u8 (op : Int), .int .u64 (a : Int), .int .u64 0, .slice none 0 0]) (Ne.symm hRX) hRS
    have hTF := HT10.out.setRow (g := R) (.inr hRw) #[.int .u8 (op : Int), .int .u64 (a : Int), .int .u64 0, .slice none 0 0]
    refine bodyPost_ret (v := .agg #[.int .u8 (op : Int), .int .u64 (a : Int), .int .u64 0, .slice none 0 0]) (by simp [results, Try.results142, go_sem, r0, r1, r2, r3]) rfl ?_
    rw [show RR = Rs.ok (op, a, 0, []) p9 from (by rw [HRR.out]; simp only [HE9.out, HA.out])]
    exact ⟨none, 0, rfl, World.ownsRow_nil _ _ _ _, hSF, hTF⟩

set_option maxRecDepth 100000 in
set_option maxHeartbeats 3200000 in
theorem gany_11 (w : World) (X : Nat) (S : Nat → Prop) (D : Option Addr) (c : Nat) (bs : List UInt8) (k : Nat) (h : Scn w X S D c bs k) (op k1 : Nat) (i : Inf) (hby : byF bs k = .ok op k1) (hck : chkF op = 0) (RR : Rs (Nat × Nat × Nat × List Nat)) (HRR : Hid (RR = match s64F bs k1 with | .er y a => .er y a | .ok v k2 => .ok (op, (v % 18446744073709551616).toNat, 0, []) k2))
    (HO : Hid (∀ w, Calls Try.prog 25 #[.int .u8 (op : Int)] w fun e w' => e = .returned (infM i 11) ∧ Step (fun _ => False) w w')) :
    Calls Try.prog 142 #[.pointer (some ⟨X, 0, none⟩)] w (GetR X S D c bs w RR) := by
  have HBY : Hid (∀ w', Scn w' X S D c bs k → Calls Try.prog 144 #[.pointer (some ⟨X, 0, none⟩)] w' fun e w'' => e = .returned (.int .u8 (op : Int)) ∧ Scn w'' X S D c bs k1 ∧ Step (fun i => i = X) w' w'') := fun w' h' => by
    have h1 := byte_any w' X S D c bs k h'
    rw [hby] at h1
    exact h1
  have hop := byF_lt hby
  clear hby
  have HC : Hid (∀ w, Calls Try.prog 26 #[.int .u8 (op : Int)] w fun e w' => e = .returned (.int .i64 0) ∧ Step (fun _ => False) w w') := fun w => by
    have := check_walk w op hop
    rw [hck] at this
    exact this
  have hxl := h.lt
  have HH := Lib.hid h
  have hlow := h.low
  clear h
  have hone0 : (insA 0 0 0 (.slice none 0 0)).all (·.oneCell') = true := by simp [insA, Value.oneCell']
  go_enter Try.func142, Try.ntmps142
  go_wp2_with fail
  refine (at_walk _ X S D c bs k (HH.out.alloc _)).mono ?_
  rintro e w5 ⟨rfl, hw5⟩
  have HB5 := Lib.hid (Blk.new w 50 (insA 0 0 0 (.slice none 0 0)))
  have HS5 := Lib.hid (HH.out.alloc (.cells (insA 0 0 0 (.slice none 0 0)) 50))
  have HT5 := Lib.hid ((Step.refl (F := fun i => i = X)).alloc (w := w) (.cells (insA 0 0 0 (.slice none 0 0)) 50))
  rw [show w.alloc (.cells (insA 0 0 0 (.slice none 0 0)) 50) = w5 from hw5.symm] at HB5 HS5 HT5
  obtain ⟨R, hR⟩ : ∃ R, R = w.heap.size := ⟨_, rfl⟩
  have hRX : R ≠ X := by omega
  have hRw : w.heap.size ≤ R := by omega
  have hRS : ∀ j, S j → j ≠ R := fun j hj => by have := hlow j hj; omega
  rw [← hR] at HB5 ⊢
  clear hR hxl hw5 HH
  go_wp2_with fail
  refine (HBY.out _ HS5.out).mono ?_
  rintro e w6 ⟨rfl, hs6, ht6⟩
  have HB6 := Lib.hid ((HB5.out.step ht6 hRX).alloc (.cells (insA op 0 0 (.slice none 0 0)) 50))
  have HI6 := Lib.hid (Blk.new w6 50 (insA op 0 0 (.slice none 0 0)))
  have HS6 := Lib.hid (hs6.alloc (.cells (insA op 0 0 (.slice none 0 0)) 50))
  have HT6 := Lib.hid ((HT5.out.trans ht6).alloc (.cells (insA op 0 0 (.slice none 0 0)) 50))
  have hRI : R < w6.heap.size := by have := HB5.out.lt; have := ht6.size; omega
  have hXI : X < w6.heap.size := by have := HS5.out.lt; have := ht6.size; omega
  have hIw : w.heap.size ≤ w6.heap.size := (HT5.out.trans ht6).size
  clear hs6 ht6 HB5 HS5 HT5
  obtain ⟨I, hI⟩ : ∃ I, I = w6.heap.size := ⟨_, rfl⟩
  obtain ⟨W, hW⟩ : ∃ W, W = w6.alloc (.cells (insA op 0 0 (.slice none 0 0)) 50) := ⟨_, rfl⟩
  rw [← hI] at HI6 hRI hXI hIw
  have hIS : ∀ j, S j → j ≠ I := fun j hj => by have := hlow j hj; omega
  have hIX : I ≠ X := by omega
  have hRI2 : R ≠ I := by omega
  rw [← hW] at HB6 HI6 HS6 HT6
  have x0 := HI6.out.cell 0
  simp [insA] at x0
  rw [hW] at x0
  rw [hI] at x0
  go_wp2_with fail
  rw [show w6.alloc (.cells #[.int .u8 (op : Int), .int .u64 0, .int .u64 0, .slice none 0 0] 50) = W from hW.symm]
  rw [← hI]
  clear x0 hW hI
  refine (HC.out _).mono ?_
  rintro e w7 ⟨rfl, ht7⟩
  have HB7 := Lib.hid (HB6.out.step ht7 id)
  have HI7 := Lib.hid (HI6.out.step ht7 id)
  have HS7 := Lib.hid (HS6.out.quiet ht7)
  have HT7 := Lib.hid (HT6.out.trans' ht7 (fun _ h => h.elim))
  clear ht7 HB6 HI6 HS6 HT6 HC
  have x0 := HI7.out.cell 0
  simp [insA] at x0
  go_wp2_with fail
  refine (aunless_ok _ _ _).mono ?_
  rintro e w8 ⟨rfl, hw8⟩
  obtain rfl : w7 = w8 := hw8.symm
  go_wp2_with fail
  refine (at_walk _ X S D c bs k1 HS7.out).mono ?_
  rintro e w8 ⟨rfl, hw8⟩
  obtain rfl : w7 = w8 := hw8.symm
  go_wp2_with fail
  refine (HO.out _).mono ?_
  rintro e w8 ⟨rfl, ht8⟩
  have HB8 := Lib.hid (HB7.out.step ht8 id)
  have HI8 := Lib.hid (HI7.out.step ht8 id)
  have HS8 := Lib.hid (HS7.out.quiet ht8)
  have HT8 := Lib.hid (HT7.out.trans' ht8 (fun _ h => h.elim))
  clear ht8 HB7 HI7 HS7 HT7 HO x0
  have hfd := field_imm i 11
  simp only [infM]
  go_wp2_with fail
  refine (int64_any _ X S D c bs k1 HS8.out).mono ?_
  intro e w9 hp
  cases hr : s64F bs k1 with
  | er y a =>
    have HE9 := Lib.hid hr
    rw [hr] at hp
    clear hr
    obtain ⟨rfl, ht⟩ := hp
    refine ⟨rfl, ?_⟩
    rw [show RR = Rs.er y a from (by rw [HRR.out]; simp only [HE9.out])]
    exact ⟨rfl, HT8.out.trans ht⟩
  | ok v p9 =>
    have HE9 := Lib.hid hr
    rw [hr] at hp
    clear hr
    obtain ⟨rfl, hs, ht⟩ := hp
    have HB9 := Lib.hid (HB8.out.step ht hRX)
    have HI9 := Lib.hid (HI8.out.step ht hIX)
    have HS9 := Lib.hid hs
    have HT9 := Lib.hid (HT8.out.trans ht)
    clear hs ht HB8 HI8 HS8 HT8
    have hs2 : IntKind.u64.wrap v = (((v % 18446744073709551616).toNat : Nat) : Int) := by rw [IntKind.wrap_u64]; omega
    obtain ⟨a, ha⟩ : ∃ a, a = (v % 18446744073709551616).toNat := ⟨_, rfl⟩
    have hal : a < 18446744073709551616 := by omega
    rw [← ha] at hs2
    have HA := Lib.hid ha
    clear ha
    have hu := IntWalk.u64_in (a : Int) (by omega)
    have zz10 := HI9.out.frozen 1
    have cc10 := HI9.out.cell 1
    simp [insA] at cc10
    have HI10 : Hid (Blk (w9.setCell ⟨I, 1, none⟩ (.int .u64 (a : Int))) I 50 #[.int .u8 (op : Int), .int .u64 (a : Int), .int .u64 0, .slice none 0 0]) := by
      have hq := HI9.out.set_ 1 (.int .u64 (a : Int))
      simp [insA] at hq
      exact hq
    have HB10 := Lib.hid (HB9.out.far (p := ⟨I, 1, none⟩) hRI2 (.int .u64 (a : Int)))
    have hst10 : Step (fun j => j = I) w9 (w9.setCell ⟨I, 1, none⟩ (.int .u64 (a : Int))) := (Step.refl (F := fun j => j = I)).setCell (p := ⟨I, 1, none⟩) (.inl rfl) _
    have HS10 := Lib.hid (HS9.out.step hst10 (Ne.symm hIX) hIS)
    have HT10 := Lib.hid (HT9.out.setCell (p := ⟨I, 1, none⟩) (.inr hIw) (.int .u64 (a : Int)))
    have y0 := HI10.out.cell 0
    have y1 := HI10.out.cell 1
    have y2 := HI10.out.cell 2
    have y3 := HI10.out.cell 3
    simp [insA] at y0 y1 y2 y3
    have hone : (#[.int .u8 (op : Int), .int .u64 (a : Int), .int .u64 0, .slice none 0 0] : Array Value).all (·.oneCell') = true := by simp [Value.oneCell']
    have hbl := HB10.out
    go_wp2_with (refine wpList_store_rowTo rfl 50 _ _ rfl rfl R #[.int .u8 (op : Int), .int .u64 (a : Int), .int .u64 0, .slice none 0 0] rfl rfl 50 _ hbl rfl rfl hone ?_)
    have r0 := (hbl.row #[.int .u8 (op : Int), .int .u64 (a : Int), .int .u64 0, .slice none 0 0]).cell 0
    have r1 := (hbl.row #[.int .u8 (op : Int), .int .u64 (a : Int), .int .u64 0, .slice none 0 0]).cell 1
    have r2 := (hbl.row #[.int .u8 (op : Int), .int .u64 (a : Int), .int .u64 0, .slice none 0 0]).cell 2
    have r3 := (hbl.row #[.int .u8 (op : Int), .int .u64 (a : Int), .int .u64 0, .slice none 0 0]).cell 3
    simp at r0 r1 r2 r3
    have hSF := HS10.out.step (Step.setRow (F := fun j => j = R) Step.refl (g := R) (.inl rfl) #[.int .u8 (op : Int), .int .u64 (a : Int), .int .u64 0, .slice none 0 0]) (Ne.symm hRX) hRS
    have hTF := HT10.out.setRow (g := R) (.inr hRw) #[.int .u8 (op : Int), .int .u64 (a : Int), .int .u64 0, .slice none 0 0]
    refine bodyPost_ret (v := .agg #[.int .u8 (op : Int), .int .u64 (a : Int), .int .u64 0, .slice none 0 0]) (by simp [results, Try.results142, go_sem, r0, r1, r2, r3]) rfl ?_
    rw [show RR = Rs.ok (op, a, 0, []) p9 from (by rw [HRR.out]; simp only [HE9.out, HA.out])]
    exact ⟨none, 0, rfl, World.ownsRow_nil _ _ _ _, hSF, hTF⟩
end Go.Proofs.Ytfemeendkjcffaa
