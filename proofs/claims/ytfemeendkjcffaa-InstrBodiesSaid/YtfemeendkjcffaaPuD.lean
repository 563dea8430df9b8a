/-
  consts: Put, and the reference's.
-/
import Derived.Test.YtfemeendkjcffaaPuC
set_option linter.unusedVariables false
set_option linter.unusedSimpArgs false
namespace Go.Proofs.Ytfemeendkjcffaa
open Go.RowKit

theorem tab35 : chkF 35 = 0 ∧ (infF 35).imm = 7 ∧ (ofR 35).2 = true ∧ (ofR 35).1.imm = 7 := by refine ⟨?_, ?_, ?_, ?_⟩ <;> kernel_rfl
theorem tab65 : chkF 65 = 0 ∧ (infF 65).imm = 10 ∧ (ofR 65).2 = true ∧ (ofR 65).1.imm = 10 := by refine ⟨?_, ?_, ?_, ?_⟩ <;> kernel_rfl
theorem tab66 : chkF 66 = 0 ∧ (infF 66).imm = 11 ∧ (ofR 66).2 = true ∧ (ofR 66).1.imm = 11 := by refine ⟨?_, ?_, ?_, ?_⟩ <;> kernel_rfl
/-- Which may be constants. -/
def ConstOk (op a : Nat) : Prop := op = 35 ∧ a < 4294967296 ∨ op = 65 ∧ a < 4294967296 ∨ op = 66
theorem crt_zero {op a b n : Nat} (h : crtF op a b n = 0) : b = 0 ∧ n = 0 ∧ ConstOk op a := by
  rw [crtF] at h
  split at h
  · rename_i hr
    split at h
    · rename_i ho
      have key : ∀ m, m = 7 ∨ m = 10 → immF m a b n = 0 → b = 0 ∧ n = 0 ∧ a < 4294967296 := fun m hm h0 => by
        rw [immF] at h0
        split at h0
        · rw [if_neg (by omega)] at h0; cases h0
        split at h0
        · cases h0
        rw [if_neg (by omega), if_neg (by omega), if_neg (by omega)] at h0
        split at h0
        · omega
        · cases h0
      have key2 : immF 11 a b n = 0 → b = 0 ∧ n = 0 := fun h0 => by
        rw [immF] at h0
        split at h0
        · rw [if_neg (by omega)] at h0; cases h0
        split at h0
        · cases h0
        omega
      rcases ho with rfl | rfl | rfl
      · rw [rgtF, tab35.1, if_pos rfl, tab35.2.1] at hr
        obtain ⟨h1, h2, h3⟩ := key 7 (by omega) hr
        exact ⟨h1, h2, .inl ⟨rfl, h3⟩⟩
      · rw [rgtF, tab65.1, if_pos rfl, tab65.2.1] at hr
        obtain ⟨h1, h2, h3⟩ := key 10 (by omega) hr
        exact ⟨h1, h2, .inr (.inl ⟨rfl, h3⟩)⟩
      · rw [rgtF, tab66.1, if_pos rfl, tab66.2.1] at hr
        obtain ⟨h1, h2⟩ := key2 hr
        exact ⟨h1, h2, .inr (.inr rfl)⟩
    · cases h
  · rename_i hr; exact absurd h hr
theorem rgt_ok {op a : Nat} (h : ConstOk op a) : rgtF op a 0 0 = 0 := by
  rcases h with ⟨rfl, h⟩ | ⟨rfl, h⟩ | rfl
  · rw [rgtF, tab35.1, if_pos rfl, tab35.2.1, immF, if_neg (by omega), if_neg (by omega), if_neg (by omega), if_neg (by omega), if_neg (by omega), if_pos ⟨h, by decide⟩]
  · rw [rgtF, tab65.1, if_pos rfl, tab65.2.1, immF, if_neg (by omega), if_neg (by omega), if_neg (by omega), if_neg (by omega), if_neg (by omega), if_pos ⟨h, by decide⟩]
  · rw [rgtF, tab66.1, if_pos rfl, tab66.2.1, immF, if_neg (by omega), if_neg (by omega), if_neg (by omega), if_neg (by omega), if_pos rfl]
theorem crt_ok {op a : Nat} (h : ConstOk op a) : crtF op a 0 0 = 0 := by
  rw [crtF, rgt_ok h, if_pos rfl, if_pos]
  rcases h with ⟨rfl, h⟩ | ⟨rfl, h⟩ | rfl <;> simp
/-- The bytes behind the first one. -/
def cT (op a : Nat) : List UInt8 := if op = 35 then uintF a else if op = 65 then intF (s32 a) else intF (s64 a)
theorem cT_len (op a : Nat) : (cT op a).length ≤ 10 := by
  unfold cT
  split
  · exact uintL_len 10 a
  split
  · exact intL_len 10 _
  · exact intL_len 10 _

theorem iput_const (w : World) (op a c : Nat) (A : Option Addr) (h : ConstOk op a) (ha : a < 18446744073709551616) :
    Calls Try.prog 55 #[.agg #[.int .u8 (op : Int), .int .u64 (a : Int), .int .u64 0, .slice A 0 c]] w fun e w' => ∃ D c', e = .returned (.tuple #[.slice D (UInt8.ofNat op :: cT op a).length c', .int .i64 0]) ∧
      w'.ownsRow w.heap.size 5 1 (.slice D (UInt8.ofNat op :: cT op a).length c') (UInt8.ofNat op :: cT op a).length (u8s (UInt8.ofNat op :: cT op a)) ∧ Step (fun _ => False) w w' := by
  have hop : op < 256 := by rcases h with ⟨rfl, h⟩ | ⟨rfl, h⟩ | rfl <;> decide
  have HR : Hid (∀ w, Calls Try.prog 56 #[.agg #[.int .u8 (op : Int), .int .u64 (a : Int), .int .u64 0, .slice A 0 c]] w fun e w' => e = .returned (.int .i64 0) ∧ Step (fun _ => False) w w') := fun w => by
    have := right_walk w op a 0 0 c A hop
    rw [rgt_ok h] at this
    exact this
  have HO : Hid (∀ w, Calls Try.prog 25 #[.int .u8 (op : Int)] w fun e w' => e = .returned (infM (infF op) ((infF op).imm : Int)) ∧ Step (fun _ => False) w w') := fun w => of_walk w op hop
  rcases h with ⟨rfl, h⟩ | ⟨rfl, h⟩ | rfl
  · rw [tab35.2.1] at HO
    exact iput_7 w 35 a 0 c A (infF 35) hop h HR HO
  · rw [tab65.2.1] at HO
    exact iput_10 w 65 a 0 c A (infF 65) hop h HR HO
  · rw [tab66.2.1] at HO
    exact iput_11 w 66 a 0 c A (infF 66) hop ha HR HO

theorem rput_const (w : World) (op a c : Nat) (A : Option Addr) (h : ConstOk op a) (ha : a < 18446744073709551616) :
    Calls Try.prog 59 #[.agg #[.int .u8 (op : Int), .int .u64 (a : Int), .int .u64 0, .slice A 0 c]] w fun e w' => e = .returned (.string (str (UInt8.ofNat op :: cT op a))) ∧ Step (fun _ => False) w w' := by
  have hop : op < 256 := by rcases h with ⟨rfl, h⟩ | ⟨rfl, h⟩ | rfl <;> decide
  have HO : Hid (∀ w, Calls Try.prog 24 #[.int .i64 (op : Int)] w fun e w' => e = .returned (.tuple #[rrM (ofR op).1 ((ofR op).1.imm : Int), .bool (ofR op).2]) ∧ Step (fun _ => False) w w') := fun w => ofref_walk w op (by omega)
  rcases h with ⟨rfl, h⟩ | ⟨rfl, h⟩ | rfl
  · rw [show ofR ((35 : Nat) : Int) = ofR 35 from rfl, tab35.2.2.1, tab35.2.2.2] at HO
    exact rput_7 w 35 a 0 c A (ofR 35).1 hop h HO
  · rw [show ofR ((65 : Nat) : Int) = ofR 65 from rfl, tab65.2.2.1, tab65.2.2.2] at HO
    exact rput_10 w 65 a 0 c A (ofR 65).1 hop h HO
  · rw [show ofR ((66 : Nat) : Int) = ofR 66 from rfl, tab66.2.2.1, tab66.2.2.2] at HO
    exact rput_11 w 66 a 0 c A (ofR 66).1 hop ha HO

def cputL (op a : Nat) : List UInt8 := UInt8.ofNat op :: cT op a ++ [11]

set_option maxRecDepth 100000 in
set_option maxHeartbeats 1600000 in
theorem crput_walk (w : World) (op a c : Nat) (A : Option Addr) (h : ConstOk op a) (ha : a < 18446744073709551616) :
    Calls Try.prog 40 #[.agg #[.int .u8 (op : Int), .int .u64 (a : Int), .int .u64 0, .slice A 0 c]] w fun e w' => e = .returned (.string (str (cputL op a))) ∧ Step (fun _ => False) w w' := by
  have HP : Hid (∀ w, Calls Try.prog 59 #[.agg #[.int .u8 (op : Int), .int .u64 (a : Int), .int .u64 0, .slice A 0 c]] w fun e w' => e = .returned (.string (str (UInt8.ofNat op :: cT op a))) ∧ Step (fun _ => False) w w') := fun w => rput_const w op a c A h ha
  have hl : (UInt8.ofNat op :: cT op a).length ≤ 11 := by have := cT_len op a; simp; omega
  rw [show cputL op a = (UInt8.ofNat op :: cT op a) ++ [11] from rfl]
  obtain ⟨T, hT⟩ : ∃ T, T = UInt8.ofNat op :: cT op a := ⟨_, rfl⟩
  rw [← hT] at HP hl ⊢
  have hsz := str_size T
  have happ : str T ++ (⟨#[11]⟩ : ByteArray) = str (T ++ [11]) := str_append T [11]
  clear hT h ha
  go_enter Try.func40, Try.ntmps40
  go_wp2_with fail
  refine (HP.out _).mono ?_
  rintro e w5 ⟨rfl, hS5⟩
  have HS5 := Lib.hid ((Step.refl.alloc _).trans hS5)
  clear hS5
  go_wp2_with fail
  go_ret
  exact ⟨rfl, HS5.out⟩

set_option maxRecDepth 100000 in
set_option maxHeartbeats 1600000 in
theorem cput_ok (w : World) (op a c : Nat) (A : Option Addr) (h : ConstOk op a) (ha : a < 18446744073709551616) :
    Calls Try.prog 36 #[.agg #[.int .u8 (op : Int), .int .u64 (a : Int), .int .u64 0, .slice A 0 c]] w fun e w' => ∃ D c', e = .returned (.tuple #[.slice D (cputL op a).length c', .int .i64 0]) ∧
      w'.ownsRow w.heap.size 5 1 (.slice D (cputL op a).length c') (cputL op a).length (u8s (cputL op a)) ∧ Step (fun _ => False) w w' := by
  have hop : op < 256 := by rcases h with ⟨rfl, h⟩ | ⟨rfl, h⟩ | rfl <;> decide
  have HP : Hid (∀ w, Calls Try.prog 55 #[.agg #[.int .u8 (op : Int), .int .u64 (a : Int), .int .u64 0, .slice A 0 c]] w fun e w' => ∃ D c', e = .returned (.tuple #[.slice D (UInt8.ofNat op :: cT op a).length c', .int .i64 0]) ∧
      w'.ownsRow w.heap.size 5 1 (.slice D (UInt8.ofNat op :: cT op a).length c') (UInt8.ofNat op :: cT op a).length (u8s (UInt8.ofNat op :: cT op a)) ∧ Step (fun _ => False) w w') := fun w => iput_const w op a c A h ha
  have HR : Hid (∀ w, Calls Try.prog 38 #[.agg #[.int .u8 (op : Int), .int .u64 (a : Int), .int .u64 0, .slice A 0 c]] w fun e w' => e = .returned (.int .i64 0) ∧ Step (fun _ => False) w w') := fun w => by
    have := cright_walk w op a 0 0 c A hop
    rw [crt_ok h] at this
    exact this
  have hl : (UInt8.ofNat op :: cT op a).length ≤ 11 := by have := cT_len op a; simp; omega
  rw [show cputL op a = (UInt8.ofNat op :: cT op a) ++ [11] from rfl]
  obtain ⟨T, hT⟩ : ∃ T, T = UInt8.ofNat op :: cT op a := ⟨_, rfl⟩
  rw [← hT] at HP hl ⊢
  clear hT h ha
  go_enter Try.func36, Try.ntmps36
  go_wp2_with fail
  refine (HR.out _).mono ?_
  rintro e w5 ⟨rfl, hS5⟩
  have HB5 := Lib.hid ((Blk.new w 50 #[.int .u8 (op : Int), .int .u64 (a : Int), .int .u64 0, .slice A 0 c]).step hS5 id)
  have HS5 := Lib.hid ((Step.refl.alloc _).trans hS5)
  clear hS5
  obtain ⟨X, hX⟩ : ∃ X, X = w.heap.size := ⟨_, rfl⟩
  rw [← hX] at HB5 ⊢
  clear hX
  have x0 := HB5.out.cell 0
  have x1 := HB5.out.cell 1
  have x2 := HB5.out.cell 2
  have x3 := HB5.out.cell 3
  simp at x0 x1 x2 x3
  go_wp2_with fail
  refine (HP.out _).mono ?_
  rintro e w7 ⟨D7, c7, rfl, hown7, hS7⟩
  have HO7 := Lib.hid (own_base hown7 (fun k hk => Nat.le_trans HS5.out.size (own_ge hown7 k hk)))
  have HS7 := Lib.hid (HS5.out.trans hS7)
  clear hS7 HS5 hown7 x0 x1 x2 x3
  have hsz := HS7.out.size
  have hm : T.length + 1 ≤ maxLen := by unfold maxLen; omega
  have hone : ∀ u ∈ #[Value.int .u8 11].toList, u.oneCell' = true := by simp [Value.oneCell']
  go_wp2_with (at_builtin; refine wpList_append_src _ rfl _ _ (by rfl) E_u8 (by rfl) (HO7.out.alloc _) (by rfl) (reads_new _ #[Value.int .u8 11] 5 1 1 rfl) hone hm (by omega) (by simp; omega) ?_; intro D' c' w8 hown8 hgrow hat)
  have HS8 := Lib.hid (grow_step (HS7.out.alloc _) hgrow (HO7.out.alloc _) (Nat.le_refl _))
  have hcs : u8s T ++ #[Value.int .u8 11].toList = u8s (T ++ [11]) := by rw [u8s_append]; rfl
  have hln : T.length + 1 = (T ++ [11]).length := by simp
  rw [hcs] at hown8
  go_ret2
  exact ⟨D', c', rfl, hown8, HS8.out⟩

set_option maxRecDepth 100000 in
set_option maxHeartbeats 1600000 in
theorem cput_err (w : World) (op a b n c : Nat) (A : Option Addr) (hop : op < 256) (h : ¬ crtF op a b n = 0) :
    Calls Try.prog 36 #[insV op a b A n c] w fun e w' => e = .returned (.tuple #[.slice none 0 0, .int .i64 (crtF op a b n : Nat)]) ∧ Step (fun _ => False) w w' := by
  have HR : Hid (∀ w, Calls Try.prog 38 #[insV op a b A n c] w fun e w' => e = .returned (.int .i64 (crtF op a b n : Nat)) ∧ Step (fun _ => False) w w') := fun w => cright_walk w op a b n c A hop
  obtain ⟨r, hr⟩ : ∃ r : Int, r = (crtF op a b n : Nat) := ⟨_, rfl⟩
  have hne : ¬ r = 0 := by omega
  have hnb : (r != 0) = true := bne_iff_ne.2 hne
  rw [← hr] at HR ⊢
  simp only [insV] at HR ⊢
  clear hr h
  go_enter Try.func36, Try.ntmps36
  go_wp2_with fail
  refine (HR.out _).mono ?_
  rintro e w5 ⟨rfl, hS5⟩
  have HS5 := Lib.hid ((Step.refl.alloc _).trans hS5)
  clear hS5
  go_wp2_with fail
  go_ret2
  exact ⟨rfl, HS5.out⟩
end Go.Proofs.Ytfemeendkjcffaa
