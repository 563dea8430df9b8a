/-
  ops: the walk of the instructions of numbers.
-/
import Derived.Test.YtpebdfgfikjkeaaOpB
import Derived.Laws.Concat
set_option linter.unusedVariables false
set_option linter.unusedSimpArgs false
namespace Go.Proofs.Ytpebdfgfikjkeaa
open Go.RowKit

def cmpC : Array Value := (cmpN.map fun s => Value.string (str s)).toArray
def rckC : Array Value := (rckN.map fun s => Value.string (str s)).toArray
theorem cmpC_one : cmpC.all (·.oneCell') = true := by kernel_rfl
theorem rckC_one : rckC.all (·.oneCell') = true := by kernel_rfl
def cmpNm (k : Nat) : List UInt8 := cmpN[k]?.getD []
def rckNm (k : Nat) : List UInt8 := rckN[k]?.getD []
theorem cmpC_at (k : Nat) (h : k < 11) : cmpC[k]? = some (.string (str (cmpNm k))) := by
  have hl : cmpN.length = 11 := by kernel_rfl
  have hop : k < cmpN.length := by omega
  rw [cmpNm, List.getElem?_eq_getElem hop, Option.getD_some, cmpC, List.getElem?_toArray, List.getElem?_map, List.getElem?_eq_getElem hop]
  rfl
theorem rckC_at (k : Nat) (h : k < 18) : rckC[k]? = some (.string (str (rckNm k))) := by
  have hl : rckN.length = 18 := by kernel_rfl
  have hop : k < rckN.length := by omega
  rw [rckNm, List.getElem?_eq_getElem hop, Option.getD_some, rckC, List.getElem?_toArray, List.getElem?_map, List.getElem?_eq_getElem hop]
  rfl
def binF (ahead name of res : List UInt8) (one : Bool) : Inf := ⟨ahead ++ name, 0, if one then of else of ++ of, res, false⟩
def a32 : List UInt8 := [105, 51, 50, 46]
def a64 : List UInt8 := [105, 54, 52, 46]
def numF (op : Nat) : Inf :=
  if op = 65 then ⟨[105, 51, 50, 46, 99, 111, 110, 115, 116], 10, [], [127], false⟩
  else if op = 66 then ⟨[105, 54, 52, 46, 99, 111, 110, 115, 116], 11, [], [126], false⟩
  else if 69 ≤ op ∧ op ≤ 79 then binF a32 (cmpNm (op - 69)) [127] [127] (op == 69)
  else if 80 ≤ op ∧ op ≤ 90 then binF a64 (cmpNm (op - 80)) [126] [127] (op == 80)
  else if 103 ≤ op ∧ op ≤ 120 then binF a32 (rckNm (op - 103)) [127] [127] (decide (op < 106))
  else if 121 ≤ op ∧ op ≤ 138 then binF a64 (rckNm (op - 121)) [126] [126] (decide (op < 124))
  else if op = 167 then ⟨[105, 51, 50, 46, 119, 114, 97, 112, 95, 105, 54, 52], 0, [126], [127], false⟩
  else if op = 172 then ⟨[105, 54, 52, 46, 101, 120, 116, 101, 110, 100, 95, 105, 51, 50, 95, 115], 0, [127], [126], false⟩
  else if op = 173 then ⟨[105, 54, 52, 46, 101, 120, 116, 101, 110, 100, 95, 105, 51, 50, 95, 117], 0, [127], [126], false⟩
  else Inf.no

theorem Blk.row {w : World} {g : Nat} {t : TypeId} {cs : Array Value} (h : Blk w g t cs) (cs' : Array Value) : Blk (w.setRow g cs') g t cs' := setRow_heap w g cs cs' t (0, 0) h
theorem Step.setRow {F : Nat → Prop} {w w' : World} (h : Step F w w') {g : Nat} (hg : F g ∨ w.heap.size ≤ g) (cs : Array Value) : Step F w (w'.setRow g cs) :=
  ⟨h.os, h.tape, h.output, by simpa using h.size, fun k hk hn => (setRow_other w' g k cs (by rintro rfl; rcases hg with h1 | h1; exact hn h1; omega)).trans (h.block k hk hn)⟩
def infA (i : Inf) : Array Value := #[.string (str i.name), .int .i64 (i.imm : Int), .string (str i.par), .string (str i.res), .bool i.free]
theorem infA_one (i : Inf) : (infA i).all (·.oneCell') = true := by simp [infA, Value.oneCell']

set_option maxRecDepth 100000 in
set_option maxHeartbeats 1600000 in
theorem binary_walk (w : World) (ahead name of res : List UInt8) (one : Bool) (hl : ahead.length ≤ 100 ∧ name.length ≤ 100 ∧ of.length ≤ 100) :
    Calls Try.prog 88 #[.string (str ahead), .string (str name), .string (str of), .string (str res), .bool one] w fun e w' => e = .returned (infV (binF ahead name of res one)) ∧ Step (fun _ => False) w w' := by
  have hs1 : ¬ 9223372036854775807 < (str ahead).size + (str name).size := by rw [str_size, str_size]; omega
  have hs2 : ¬ 9223372036854775807 < (str of).size + (str of).size := by rw [str_size]; omega
  clear hl
  cases one <;>
  · go_enter Try.func88, Try.ntmps88
    go_wp2_with fail
    exact bodyPost_ret (v := infV (binF ahead name of res _)) (by simp [results, Try.results88, go_sem, infV, binF, str_append]) rfl ⟨rfl, (Step.refl.alloc _).alloc _⟩

set_option maxRecDepth 100000 in
set_option maxHeartbeats 1600000 in
theorem number_lit (w : World) (op : Nat) (h : op = 65 ∨ op = 66 ∨ op = 167 ∨ op = 172 ∨ op = 173) : Calls Try.prog 72 #[.int .u8 op] w fun e w' => e = .returned (infV (numF op)) ∧ Step (fun _ => False) w w' := by
  have hc1 := cmpC_one
  have hc2 := rckC_one
  rcases h with rfl | rfl | rfl | rfl | rfl <;>
  · go_enter Try.func72, Try.ntmps72
    go_wp2_with first
      | (refine wpList_buildTo rfl 156 _ rfl _ rfl cmpC (by kernel_rfl) ?_)
      | (refine wpList_store_new rfl 156 _ _ rfl rfl cmpC rfl rfl (by simp) rfl rfl hc1 ?_)
      | (refine wpList_buildTo rfl 157 _ rfl _ rfl rckC (by kernel_rfl) ?_)
      | (refine wpList_store_new rfl 157 _ _ rfl rfl rckC rfl rfl (by simp) rfl rfl hc2 ?_)
    exact bodyPost_ret (v := infV (numF _)) (by simp [results, Try.results72, go_sem, infV]; (repeat' apply And.intro) <;> rfl) rfl ⟨rfl, ((Step.refl.alloc _).alloc _).alloc _⟩

set_option maxRecDepth 100000 in
set_option maxHeartbeats 1600000 in
theorem number_no (w : World) (op : Nat) (lo hi : Int) (h1 : lo ≤ op) (h2 : (op : Int) ≤ hi) (h : lo = 67 ∧ hi = 68 ∨ lo = 91 ∧ hi = 102 ∨ lo = 139 ∧ hi = 166 ∨ lo = 168 ∧ hi = 171 ∨ lo = 174 ∧ hi = 255) :
    Calls Try.prog 72 #[.int .u8 op] w fun e w' => e = .returned (infV Inf.no) ∧ Step (fun _ => False) w w' := by
  have hc1 := cmpC_one
  have hc2 := rckC_one
  obtain ⟨p, hp⟩ : ∃ p, p = (op : Int) := ⟨_, rfl⟩
  rw [← hp] at h1 h2 ⊢
  clear hp op
  rcases h with ⟨rfl, rfl⟩ | ⟨rfl, rfl⟩ | ⟨rfl, rfl⟩ | ⟨rfl, rfl⟩ | ⟨rfl, rfl⟩ <;>
  · go_enter Try.func72, Try.ntmps72
    go_wp2_with first
      | (refine wpList_buildTo rfl 156 _ rfl _ rfl cmpC (by kernel_rfl) ?_)
      | (refine wpList_store_new rfl 156 _ _ rfl rfl cmpC rfl rfl (by simp) rfl rfl hc1 ?_)
      | (refine wpList_buildTo rfl 157 _ rfl _ rfl rckC (by kernel_rfl) ?_)
      | (refine wpList_store_new rfl 157 _ _ rfl rfl rckC rfl rfl (by simp) rfl rfl hc2 ?_)
    exact bodyPost_ret (v := infV Inf.no) (by simp [results, Try.results72, go_sem, infV]; (repeat' apply And.intro) <;> rfl) rfl ⟨rfl, ((Step.refl.alloc _).alloc _).alloc _⟩

set_option maxRecDepth 100000 in
set_option maxHeartbeats 1600000 in
theorem number_c32 (w : World) (k : Nat) (h : k < 11) (hl : (cmpNm k).length ≤ 100) : Calls Try.prog 72 #[.int .u8 ((k + 69 : Nat) : Int)] w fun e w' => e = .returned (infV (binF a32 (cmpNm k) [127] [127] (k == 0))) ∧ Step (fun _ => False) w w' := by
  have hc1 := cmpC_one
  have hc2 := rckC_one
  have hck := cmpC_at k h
  obtain ⟨nm, hnm⟩ : ∃ nm, nm = cmpNm k := ⟨_, rfl⟩
  rw [← hnm] at hck hl ⊢
  obtain ⟨op, hop⟩ : ∃ op : Int, op = ((k + 69 : Nat) : Int) := ⟨_, rfl⟩
  rw [← hop]
  have hge : 69 ≤ op := by omega
  have hle : op ≤ 79 := by omega
  have hs : IntKind.u8.wrap (op - 69) = (k : Int) := by rw [IntWalk.u8_in _ (by omega)]; omega
  have hk1 : (k : Int) < 11 := by omega
  have hone : (op == 69) = (k == 0) := (by rw [hop, Bool.eq_iff_iff]; simp; omega)
  obtain ⟨one, hO⟩ : ∃ one, one = (k == 0) := ⟨_, rfl⟩
  rw [← hO] at hone ⊢
  clear hnm h hop hO
  go_enter Try.func72, Try.ntmps72
  go_wp2_with first
    | (refine wpList_buildTo rfl 156 _ rfl _ rfl cmpC (by kernel_rfl) ?_)
    | (refine wpList_store_new rfl 156 _ _ rfl rfl cmpC rfl rfl (by simp) rfl rfl hc1 ?_)
    | (refine wpList_buildTo rfl 157 _ rfl _ rfl rckC (by kernel_rfl) ?_)
    | (refine wpList_store_new rfl 157 _ _ rfl rfl rckC rfl rfl (by simp) rfl rfl hc2 ?_)
  refine (binary_walk _ a32 nm [127] [127] one ⟨by decide, hl, by decide⟩).mono ?_
  rintro e w5 ⟨rfl, hS5⟩
  have hb := (((Blk.new w 117 (infA Inf.no)).alloc (.cells cmpC 156)).alloc (.cells rckC 157)).step hS5 id
  have HS : Hid (Step (fun _ => False) w w5) := Lib.hid ((((Step.refl.alloc _).alloc _).alloc _).trans hS5)
  obtain ⟨i, hi⟩ : ∃ i, i = binF a32 nm [127] [127] one := ⟨_, rfl⟩
  rw [← hi]
  have HI := Lib.hid hi
  clear hS5 hi hck hone
  have hz := hb.row (infA i)
  have z0 := hz.cell 0
  have z1 := hz.cell 1
  have z2 := hz.cell 2
  have z3 := hz.cell 3
  have z4 := hz.cell 4
  simp [infA] at z0 z1 z2 z3 z4
  clear hz
  go_wp2_with first
    | (refine wpList_store_rowTo rfl 117 _ _ rfl rfl w.heap.size (infA i) rfl rfl 117 _ hb rfl rfl (infA_one i) ?_)
  exact bodyPost_ret (v := infV i) (by simp [results, Try.results72, go_sem, infV, infA, z0, z1, z2, z3, z4]) rfl ⟨by rw [HI.out], HS.out.setRow (.inr (Nat.le_refl _)) _⟩

set_option maxRecDepth 100000 in
set_option maxHeartbeats 1600000 in
theorem number_c64 (w : World) (k : Nat) (h : k < 11) (hl : (cmpNm k).length ≤ 100) : Calls Try.prog 72 #[.int .u8 ((k + 80 : Nat) : Int)] w fun e w' => e = .returned (infV (binF a64 (cmpNm k) [126] [127] (k == 0))) ∧ Step (fun _ => False) w w' := by
  have hc1 := cmpC_one
  have hc2 := rckC_one
  have hck := cmpC_at k h
  obtain ⟨nm, hnm⟩ : ∃ nm, nm = cmpNm k := ⟨_, rfl⟩
  rw [← hnm] at hck hl ⊢
  obtain ⟨op, hop⟩ : ∃ op : Int, op = ((k + 80 : Nat) : Int) := ⟨_, rfl⟩
  rw [← hop]
  have hge : 80 ≤ op := by omega
  have hle : op ≤ 90 := by omega
  have hs : IntKind.u8.wrap (op - 80) = (k : Int) := by rw [IntWalk.u8_in _ (by omega)]; omega
  have hk1 : (k : Int) < 11 := by omega
  have hone : (op == 80) = (k == 0) := (by rw [hop, Bool.eq_iff_iff]; simp; omega)
  obtain ⟨one, hO⟩ : ∃ one, one = (k == 0) := ⟨_, rfl⟩
  rw [← hO] at hone ⊢
  clear hnm h hop hO
  go_enter Try.func72, Try.ntmps72
  go_wp2_with first
    | (refine wpList_buildTo rfl 156 _ rfl _ rfl cmpC (by kernel_rfl) ?_)
    | (refine wpList_store_new rfl 156 _ _ rfl rfl cmpC rfl rfl (by simp) rfl rfl hc1 ?_)
    | (refine wpList_buildTo rfl 157 _ rfl _ rfl rckC (by kernel_rfl) ?_)
    | (refine wpList_store_new rfl 157 _ _ rfl rfl rckC rfl rfl (by simp) rfl rfl hc2 ?_)
  refine (binary_walk _ a64 nm [126] [127] one ⟨by decide, hl, by decide⟩).mono ?_
  rintro e w5 ⟨rfl, hS5⟩
  have hb := (((Blk.new w 117 (infA Inf.no)).alloc (.cells cmpC 156)).alloc (.cells rckC 157)).step hS5 id
  have HS : Hid (Step (fun _ => False) w w5) := Lib.hid ((((Step.refl.alloc _).alloc _).alloc _).trans hS5)
  obtain ⟨i, hi⟩ : ∃ i, i = binF a64 nm [126] [127] one := ⟨_, rfl⟩
  rw [← hi]
  have HI := Lib.hid hi
  clear hS5 hi hck hone
  have hz := hb.row (infA i)
  have z0 := hz.cell 0
  have z1 := hz.cell 1
  have z2 := hz.cell 2
  have z3 := hz.cell 3
  have z4 := hz.cell 4
  simp [infA] at z0 z1 z2 z3 z4
  clear hz
  go_wp2_with first
    | (refine wpList_store_rowTo rfl 117 _ _ rfl rfl w.heap.size (infA i) rfl rfl 117 _ hb rfl rfl (infA_one i) ?_)
  exact bodyPost_ret (v := infV i) (by simp [results, Try.results72, go_sem, infV, infA, z0, z1, z2, z3, z4]) rfl ⟨by rw [HI.out], HS.out.setRow (.inr (Nat.le_refl _)) _⟩

set_option maxRecDepth 100000 in
set_option maxHeartbeats 1600000 in
theorem number_r32 (w : World) (k : Nat) (h : k < 18) (hl : (rckNm k).length ≤ 100) : Calls Try.prog 72 #[.int .u8 ((k + 103 : Nat) : Int)] w fun e w' => e = .returned (infV (binF a32 (rckNm k) [127] [127] (decide (k < 3)))) ∧ Step (fun _ => False) w w' := by
  have hc1 := cmpC_one
  have hc2 := rckC_one
  have hck := rckC_at k h
  obtain ⟨nm, hnm⟩ : ∃ nm, nm = rckNm k := ⟨_, rfl⟩
  rw [← hnm] at hck hl ⊢
  obtain ⟨op, hop⟩ : ∃ op : Int, op = ((k + 103 : Nat) : Int) := ⟨_, rfl⟩
  rw [← hop]
  have hge : 103 ≤ op := by omega
  have hle : op ≤ 120 := by omega
  have hs : IntKind.u8.wrap (op - 103) = (k : Int) := by rw [IntWalk.u8_in _ (by omega)]; omega
  have hk1 : (k : Int) < 18 := by omega
  have hone : (decide (op < 106)) = (decide (k < 3)) := (decide_eq_decide.2 (by omega))
  obtain ⟨one, hO⟩ : ∃ one, one = (decide (k < 3)) := ⟨_, rfl⟩
  rw [← hO] at hone ⊢
  clear hnm h hop hO
  go_enter Try.func72, Try.ntmps72
  go_wp2_with first
    | (refine wpList_buildTo rfl 156 _ rfl _ rfl cmpC (by kernel_rfl) ?_)
    | (refine wpList_store_new rfl 156 _ _ rfl rfl cmpC rfl rfl (by simp) rfl rfl hc1 ?_)
    | (refine wpList_buildTo rfl 157 _ rfl _ rfl rckC (by kernel_rfl) ?_)
    | (refine wpList_store_new rfl 157 _ _ rfl rfl rckC rfl rfl (by simp) rfl rfl hc2 ?_)
  refine (binary_walk _ a32 nm [127] [127] one ⟨by decide, hl, by decide⟩).mono ?_
  rintro e w5 ⟨rfl, hS5⟩
  have hb := (((Blk.new w 117 (infA Inf.no)).alloc (.cells cmpC 156)).alloc (.cells rckC 157)).step hS5 id
  have HS : Hid (Step (fun _ => False) w w5) := Lib.hid ((((Step.refl.alloc _).alloc _).alloc _).trans hS5)
  obtain ⟨i, hi⟩ : ∃ i, i = binF a32 nm [127] [127] one := ⟨_, rfl⟩
  rw [← hi]
  have HI := Lib.hid hi
  clear hS5 hi hck hone
  have hz := hb.row (infA i)
  have z0 := hz.cell 0
  have z1 := hz.cell 1
  have z2 := hz.cell 2
  have z3 := hz.cell 3
  have z4 := hz.cell 4
  simp [infA] at z0 z1 z2 z3 z4
  clear hz
  go_wp2_with first
    | (refine wpList_store_rowTo rfl 117 _ _ rfl rfl w.heap.size (infA i) rfl rfl 117 _ hb rfl rfl (infA_one i) ?_)
  exact bodyPost_ret (v := infV i) (by simp [results, Try.results72, go_sem, infV, infA, z0, z1, z2, z3, z4]) rfl ⟨by rw [HI.out], HS.out.setRow (.inr (Nat.le_refl _)) _⟩

set_option maxRecDepth 100000 in
set_option maxHeartbeats 1600000 in
theorem number_r64 (w : World) (k : Nat) (h : k < 18) (hl : (rckNm k).length ≤ 100) : Calls Try.prog 72 #[.int .u8 ((k + 121 : Nat) : Int)] w fun e w' => e = .returned (infV (binF a64 (rckNm k) [126] [126] (decide (k < 3)))) ∧ Step (fun _ => False) w w' := by
  have hc1 := cmpC_one
  have hc2 := rckC_one
  have hck := rckC_at k h
  obtain ⟨nm, hnm⟩ : ∃ nm, nm = rckNm k := ⟨_, rfl⟩
  rw [← hnm] at hck hl ⊢
  obtain ⟨op, hop⟩ : ∃ op : Int, op = ((k + 121 : Nat) : Int) := ⟨_, rfl⟩
  rw [← hop]
  have hge : 121 ≤ op := by omega
  have hle : op ≤ 138 := by omega
  have hs : IntKind.u8.wrap (op - 121) = (k : Int) := by rw [IntWalk.u8_in _ (by omega)]; omega
  have hk1 : (k : Int) < 18 := by omega
  have hone : (decide (op < 124)) = (decide (k < 3)) := (decide_eq_decide.2 (by omega))
  obtain ⟨one, hO⟩ : ∃ one, one = (decide (k < 3)) := ⟨_, rfl⟩
  rw [← hO] at hone ⊢
  clear hnm h hop hO
  go_enter Try.func72, Try.ntmps72
  go_wp2_with first
    | (refine wpList_buildTo rfl 156 _ rfl _ rfl cmpC (by kernel_rfl) ?_)
    | (refine wpList_store_new rfl 156 _ _ rfl rfl cmpC rfl rfl (by simp) rfl rfl hc1 ?_)
    | (refine wpList_buildTo rfl 157 _ rfl _ rfl rckC (by kernel_rfl) ?_)
    | (refine wpList_store_new rfl 157 _ _ rfl rfl rckC rfl rfl (by simp) rfl rfl hc2 ?_)
  refine (binary_walk _ a64 nm [126] [126] one ⟨by decide, hl, by decide⟩).mono ?_
  rintro e w5 ⟨rfl, hS5⟩
  have hb := (((Blk.new w 117 (infA Inf.no)).alloc (.cells cmpC 156)).alloc (.cells rckC 157)).step hS5 id
  have HS : Hid (Step (fun _ => False) w w5) := Lib.hid ((((Step.refl.alloc _).alloc _).alloc _).trans hS5)
  obtain ⟨i, hi⟩ : ∃ i, i = binF a64 nm [126] [126] one := ⟨_, rfl⟩
  rw [← hi]
  have HI := Lib.hid hi
  clear hS5 hi hck hone
  have hz := hb.row (infA i)
  have z0 := hz.cell 0
  have z1 := hz.cell 1
  have z2 := hz.cell 2
  have z3 := hz.cell 3
  have z4 := hz.cell 4
  simp [infA] at z0 z1 z2 z3 z4
  clear hz
  go_wp2_with first
    | (refine wpList_store_rowTo rfl 117 _ _ rfl rfl w.heap.size (infA i) rfl rfl 117 _ hb rfl rfl (infA_one i) ?_)
  exact bodyPost_ret (v := infV i) (by simp [results, Try.results72, go_sem, infV, infA, z0, z1, z2, z3, z4]) rfl ⟨by rw [HI.out], HS.out.setRow (.inr (Nat.le_refl _)) _⟩

theorem cmp_short (k : Nat) (h : k < 11) : (cmpNm k).length ≤ 100 := by
  have : ∀ k : Fin 11, (cmpNm k.1).length ≤ 100 := by decide
  exact this ⟨k, h⟩
theorem rck_short (k : Nat) (h : k < 18) : (rckNm k).length ≤ 100 := by
  have : ∀ k : Fin 18, (rckNm k.1).length ≤ 100 := by decide
  exact this ⟨k, h⟩

theorem number_walk (w : World) (op : Nat) (h : op < 256) (h64 : 64 < op) : Calls Try.prog 72 #[.int .u8 op] w fun e w' => e = .returned (infV (numF op)) ∧ Step (fun _ => False) w w' := by
  by_cases h1 : op = 65 ∨ op = 66 ∨ op = 167 ∨ op = 172 ∨ op = 173
  · exact number_lit w op h1
  by_cases h2 : 69 ≤ op ∧ op ≤ 79
  · obtain ⟨k, rfl⟩ : ∃ k, op = k + 69 := ⟨op - 69, by omega⟩
    have := number_c32 w k (by omega) (cmp_short k (by omega))
    rw [numF, if_neg (by omega), if_neg (by omega), if_pos h2, Nat.add_sub_cancel, show (k + 69 == 69) = (k == 0) from by rw [Bool.eq_iff_iff]; simp]
    exact this
  by_cases h3 : 80 ≤ op ∧ op ≤ 90
  · obtain ⟨k, rfl⟩ : ∃ k, op = k + 80 := ⟨op - 80, by omega⟩
    have := number_c64 w k (by omega) (cmp_short k (by omega))
    rw [numF, if_neg (by omega), if_neg (by omega), if_neg h2, if_pos h3, Nat.add_sub_cancel, show (k + 80 == 80) = (k == 0) from by rw [Bool.eq_iff_iff]; simp]
    exact this
  by_cases h4 : 103 ≤ op ∧ op ≤ 120
  · obtain ⟨k, rfl⟩ : ∃ k, op = k + 103 := ⟨op - 103, by omega⟩
    have := number_r32 w k (by omega) (rck_short k (by omega))
    rw [numF, if_neg (by omega), if_neg (by omega), if_neg h2, if_neg h3, if_pos h4, Nat.add_sub_cancel, show decide (k + 103 < 106) = decide (k < 3) from decide_eq_decide.2 (by omega)]
    exact this
  by_cases h5 : 121 ≤ op ∧ op ≤ 138
  · obtain ⟨k, rfl⟩ : ∃ k, op = k + 121 := ⟨op - 121, by omega⟩
    have := number_r64 w k (by omega) (rck_short k (by omega))
    rw [numF, if_neg (by omega), if_neg (by omega), if_neg h2, if_neg h3, if_neg h4, if_pos h5, Nat.add_sub_cancel, show decide (k + 121 < 124) = decide (k < 3) from decide_eq_decide.2 (by omega)]
    exact this
  have : numF op = Inf.no := by
    rw [numF, if_neg (by omega), if_neg (by omega), if_neg h2, if_neg h3, if_neg h4, if_neg h5, if_neg (by omega), if_neg (by omega), if_neg (by omega)]
  rw [this]
  by_cases g1 : op ≤ 68
  · exact number_no w op 67 68 (by omega) (by omega) (by simp)
  by_cases g2 : op ≤ 102
  · exact number_no w op 91 102 (by omega) (by omega) (by simp)
  by_cases g3 : op ≤ 166
  · exact number_no w op 139 166 (by omega) (by omega) (by simp)
  by_cases g4 : op ≤ 171
  · exact number_no w op 168 171 (by omega) (by omega) (by simp)
  · exact number_no w op 174 255 (by omega) (by omega) (by simp)

/-! ### Of -/
def infF (op : Nat) : Inf := if op < 40 then ctlT[op]?.getD Inf.no else if op ≤ 64 then memF op else numF op
end Go.Proofs.Ytpebdfgfikjkeaa
