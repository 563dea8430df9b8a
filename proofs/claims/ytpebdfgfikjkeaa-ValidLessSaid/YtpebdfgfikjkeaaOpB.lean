/-
  ops: the walk of the instructions that reach a memory.
-/
import Derived.Test.YtpebdfgfikjkeaaOpA
set_option linter.unusedVariables false
set_option linter.unusedSimpArgs false
namespace Go.Proofs.Ytpebdfgfikjkeaa
open Go.RowKit

/-! ### memory -/
def memC : Array Value := (memN.map fun s => Value.string (str s)).toArray
theorem memC_size : memC.size = 23 := by kernel_rfl
theorem memC_one : memC.all (·.oneCell') = true := by kernel_rfl
theorem memC_at (k : Nat) (h : k < 23) : memC[k]? = some (.string (str (memN[k]?.getD []))) := by
  have hl : memN.length = 23 := by kernel_rfl
  have hop : k < memN.length := by omega
  rw [List.getElem?_eq_getElem hop, Option.getD_some, memC, List.getElem?_toArray, List.getElem?_map, List.getElem?_eq_getElem hop]
  rfl
def memNm (k : Nat) : List UInt8 := memN[k]?.getD []
/-- The type of number that a name of memory has: 3 stands for 32. -/
def memTy (nm : List UInt8) : List UInt8 := if nm[1]? = some 51 then [127] else [126]
def memF (op : Nat) : Inf :=
  if op = 63 then ⟨[109, 101, 109, 111, 114, 121, 46, 115, 105, 122, 101], 9, [], [127], false⟩
  else if op = 64 then ⟨[109, 101, 109, 111, 114, 121, 46, 103, 114, 111, 119], 9, [127], [127], false⟩
  else if op < 40 ∨ 62 < op ∨ memNm (op - 40) = [] then Inf.no
  else if op < 54 then ⟨memNm (op - 40), 8, [127], memTy (memNm (op - 40)), false⟩
  else ⟨memNm (op - 40), 8, [127] ++ memTy (memNm (op - 40)), [], false⟩

set_option maxRecDepth 100000 in
set_option maxHeartbeats 1600000 in
theorem memory_63 (w : World) (op : Nat) (h : op = 63 ∨ op = 64) : Calls Try.prog 71 #[.int .u8 op] w fun e w' => e = .returned (infV (memF op)) ∧ Step (fun _ => False) w w' := by
  have hc1 := memC_one
  rcases h with rfl | rfl <;>
  · go_enter Try.func71, Try.ntmps71
    go_wp2_with first
      | (refine wpList_buildTo rfl 155 _ rfl _ rfl memC (by kernel_rfl) ?_)
      | (refine wpList_store_new rfl 155 _ _ rfl rfl memC rfl rfl (by simp) rfl rfl hc1 ?_)
    exact bodyPost_ret (v := infV (memF _)) (by simp [results, Try.results71, go_sem, infV]; (repeat' apply And.intro) <;> rfl) rfl ⟨rfl, (Step.refl.alloc _).alloc _⟩

set_option maxRecDepth 100000 in
set_option maxHeartbeats 1600000 in
theorem memory_out (w : World) (op : Nat) (h : op < 40 ∨ 64 < op) (h2 : op < 256) : Calls Try.prog 71 #[.int .u8 op] w fun e w' => e = .returned (infV Inf.no) ∧ Step (fun _ => False) w w' := by
  have hc1 := memC_one
  have h63 : ¬ (op : Int) = 63 := by omega
  have h64 : ¬ (op : Int) = 64 := by omega
  have hlt : ((op : Int) < 40) ∨ (40 ≤ (op : Int) ∧ (62 < (op : Int))) := by omega
  clear h
  rcases hlt with hlt | ⟨hge, hgt⟩
  · go_enter Try.func71, Try.ntmps71
    go_wp2_with first
      | (refine wpList_buildTo rfl 155 _ rfl _ rfl memC (by kernel_rfl) ?_)
      | (refine wpList_store_new rfl 155 _ _ rfl rfl memC rfl rfl (by simp) rfl rfl hc1 ?_)
    exact bodyPost_ret (v := infV Inf.no) (by simp [results, Try.results71, go_sem, infV]; (repeat' apply And.intro) <;> rfl) rfl ⟨rfl, (Step.refl.alloc _).alloc _⟩
  · have hn : ¬ (op : Int) < 40 := by omega
    go_enter Try.func71, Try.ntmps71
    go_wp2_with first
      | (refine wpList_buildTo rfl 155 _ rfl _ rfl memC (by kernel_rfl) ?_)
      | (refine wpList_store_new rfl 155 _ _ rfl rfl memC rfl rfl (by simp) rfl rfl hc1 ?_)
    exact bodyPost_ret (v := infV Inf.no) (by simp [results, Try.results71, go_sem, infV]; (repeat' apply And.intro) <;> rfl) rfl ⟨rfl, (Step.refl.alloc _).alloc _⟩

theorem memN_len (k : Nat) (h : k < 23) : memNm k = [] ∨ 1 < (memNm k).length := by
  have : ∀ k : Fin 23, memNm k.1 = [] ∨ 1 < (memNm k.1).length := by decide
  exact this ⟨k, h⟩

set_option maxRecDepth 100000 in
set_option maxHeartbeats 1600000 in
theorem memory_none (w : World) (k : Nat) (h : k < 23) (hno : memNm k = []) : Calls Try.prog 71 #[.int .u8 ((k + 40 : Nat) : Int)] w fun e w' => e = .returned (infV Inf.no) ∧ Step (fun _ => False) w w' := by
  have hc1 := memC_one
  have hck := memC_at k h
  rw [show memN[k]?.getD [] = [] from hno] at hck
  obtain ⟨op, hop⟩ : ∃ op : Int, op = ((k + 40 : Nat) : Int) := ⟨_, rfl⟩
  rw [← hop]
  have h63 : ¬ op = 63 := by omega
  have h64 : ¬ op = 64 := by omega
  have hge : ¬ op < 40 := by omega
  have hle' : ¬ 62 < op := by omega
  have hs : IntKind.u8.wrap (op - 40) = (k : Int) := by rw [IntWalk.u8_in _ (by omega)]; omega
  have hk1 : (k : Int) < 23 := by omega
  have hemp := str_toList []
  rw [show str [] = ⟨#[]⟩ from rfl] at hemp hck
  clear h hno hop
  go_enter Try.func71, Try.ntmps71
  go_wp2_with first
    | (refine wpList_buildTo rfl 155 _ rfl _ rfl memC (by kernel_rfl) ?_)
    | (refine wpList_store_new rfl 155 _ _ rfl rfl memC rfl rfl (by simp) rfl rfl hc1 ?_)
  exact bodyPost_ret (v := infV Inf.no) (by simp [results, Try.results71, go_sem, infV]; (repeat' apply And.intro) <;> rfl) rfl ⟨rfl, (Step.refl.alloc _).alloc _⟩

set_option maxRecDepth 100000 in
set_option maxHeartbeats 1600000 in
theorem memory_in (w : World) (k : Nat) (h : k < 23) (hsome : 1 < (memNm k).length) : Calls Try.prog 71 #[.int .u8 ((k + 40 : Nat) : Int)] w fun e w' => e = .returned (infV (memF (k + 40))) ∧ Step (fun _ => False) w w' := by
  have hc1 := memC_one
  have hck := memC_at k h
  obtain ⟨nm, hnm⟩ : ∃ nm, nm = memNm k := ⟨_, rfl⟩
  rw [show memN[k]?.getD [] = memNm k from rfl, ← hnm] at hck
  have hF : memF (k + 40) = if k + 40 < 54 then ⟨nm, 8, [127], memTy nm, false⟩ else ⟨nm, 8, [127] ++ memTy nm, [], false⟩ := by
    have : ¬ (k + 40 < 40 ∨ 62 < k + 40 ∨ memNm (k + 40 - 40) = []) := by
      rw [Nat.add_sub_cancel]
      rintro (h | h | h)
      · omega
      · omega
      · rw [h] at hsome; simp at hsome
    rw [memF, if_neg (by omega), if_neg (by omega), if_neg this, Nat.add_sub_cancel, ← hnm]
  rw [← hnm] at hsome
  rw [hF, memTy, List.getElem?_eq_getElem hsome]
  have HX := index_strn Try.underlying9 nm (1 : Int) 1 rfl hsome (P := Try.prog)
  obtain ⟨op, hop⟩ : ∃ op : Int, op = ((k + 40 : Nat) : Int) := ⟨_, rfl⟩
  rw [← hop]
  have h63 : ¬ op = 63 := by omega
  have h64 : ¬ op = 64 := by omega
  have hge : ¬ op < 40 := by omega
  have hle' : ¬ 62 < op := by omega
  have hs : IntKind.u8.wrap (op - 40) = (k : Int) := by rw [IntWalk.u8_in _ (by omega)]; omega
  have hk1 : (k : Int) < 23 := by omega
  have hemp := str_toList []
  rw [show str [] = ⟨#[]⟩ from rfl] at hemp
  have hne : (str nm).toList.isEmpty = false := by
    rw [str_toList]
    cases nm with
    | nil => simp at hsome
    | cons => rfl
  obtain ⟨c, hc⟩ : ∃ c : Nat, c = nm[1].toNat := ⟨_, rfl⟩
  rw [← hc] at HX
  have hiff : (k + 40 < 54) = (op < 54) := propext (by omega)
  have hiff2 : (some nm[1] = some 51) = (c = 51) := propext ⟨fun h => by rw [hc, Option.some.inj h]; rfl, fun h => by rw [UInt8.toNat_inj.1 (show nm[1].toNat = (51 : UInt8).toNat from by rw [← hc, h]; rfl)]⟩
  simp only [hiff, hiff2]
  clear hF hnm h hc hop hiff hiff2
  by_cases hlt : op < 54 <;> by_cases h51 : c = 51
  · rw [if_pos hlt, if_pos h51]
    subst h51
    go_enter Try.func71, Try.ntmps71
    go_wp2_with first
      | (refine wpList_buildTo rfl 155 _ rfl _ rfl memC (by kernel_rfl) ?_)
      | (refine wpList_store_new rfl 155 _ _ rfl rfl memC rfl rfl (by simp) rfl rfl hc1 ?_)
    exact bodyPost_ret (v := infV ⟨nm, 8, [127], [127], false⟩) (by simp [results, Try.results71, go_sem, infV]; (repeat' apply And.intro) <;> rfl) rfl ⟨rfl, ((Step.refl.alloc _).alloc _).alloc _⟩
  · rw [if_pos hlt, if_neg h51]
    have h51' : ¬ (c : Int) = 51 := by omega
    go_enter Try.func71, Try.ntmps71
    go_wp2_with first
      | (refine wpList_buildTo rfl 155 _ rfl _ rfl memC (by kernel_rfl) ?_)
      | (refine wpList_store_new rfl 155 _ _ rfl rfl memC rfl rfl (by simp) rfl rfl hc1 ?_)
    exact bodyPost_ret (v := infV ⟨nm, 8, [127], [126], false⟩) (by simp [results, Try.results71, go_sem, infV]; (repeat' apply And.intro) <;> rfl) rfl ⟨rfl, ((Step.refl.alloc _).alloc _).alloc _⟩
  · rw [if_neg hlt, if_pos h51]
    subst h51
    go_enter Try.func71, Try.ntmps71
    go_wp2_with first
      | (refine wpList_buildTo rfl 155 _ rfl _ rfl memC (by kernel_rfl) ?_)
      | (refine wpList_store_new rfl 155 _ _ rfl rfl memC rfl rfl (by simp) rfl rfl hc1 ?_)
    exact bodyPost_ret (v := infV ⟨nm, 8, [127] ++ [127], [], false⟩) (by simp [results, Try.results71, go_sem, infV]; (repeat' apply And.intro) <;> rfl) rfl ⟨rfl, ((Step.refl.alloc _).alloc _).alloc _⟩
  · rw [if_neg hlt, if_neg h51]
    have h51' : ¬ (c : Int) = 51 := by omega
    go_enter Try.func71, Try.ntmps71
    go_wp2_with first
      | (refine wpList_buildTo rfl 155 _ rfl _ rfl memC (by kernel_rfl) ?_)
      | (refine wpList_store_new rfl 155 _ _ rfl rfl memC rfl rfl (by simp) rfl rfl hc1 ?_)
    exact bodyPost_ret (v := infV ⟨nm, 8, [127] ++ [126], [], false⟩) (by simp [results, Try.results71, go_sem, infV]; (repeat' apply And.intro) <;> rfl) rfl ⟨rfl, ((Step.refl.alloc _).alloc _).alloc _⟩

theorem memory_walk (w : World) (op : Nat) (h : op < 256) : Calls Try.prog 71 #[.int .u8 op] w fun e w' => e = .returned (infV (memF op)) ∧ Step (fun _ => False) w w' := by
  by_cases h1 : op = 63 ∨ op = 64
  · exact memory_63 w op h1
  by_cases h2 : op < 40 ∨ 64 < op
  · have : memF op = Inf.no := by rw [memF, if_neg (by omega), if_neg (by omega), if_pos (by omega)]
    rw [this]
    exact memory_out w op h2 h
  obtain ⟨k, rfl⟩ : ∃ k, op = k + 40 := ⟨op - 40, by omega⟩
  have hk : k < 23 := by omega
  rcases memN_len k hk with hno | hsome
  · have : memF (k + 40) = Inf.no := by rw [memF, if_neg (by omega), if_neg (by omega), if_pos (by right; right; rw [Nat.add_sub_cancel]; exact hno)]
    rw [this]
    exact memory_none w k hk hno
  · exact memory_in w k hk hsome
end Go.Proofs.Ytpebdfgfikjkeaa
