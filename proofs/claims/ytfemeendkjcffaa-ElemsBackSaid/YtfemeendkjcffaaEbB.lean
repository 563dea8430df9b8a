/-
  elems: GetAll of a list that may be.
-/
import Derived.Test.YtfemeendkjcffaaEbA
set_option linter.unusedVariables false
set_option linter.unusedSimpArgs false
namespace Go.Proofs.Ytfemeendkjcffaa
open Go.RowKit

/-- A row that may be, as it is read. -/
def El.back (x : El) (D : Option Addr) (f : Nat) : El := ⟨x.op, x.a, 0, 0, 0, x.m, f, none, D, x.L⟩
def Bk (w : World) (B : Nat) (x y : El) : Prop := y = x.back y.FA y.fc ∧ w.ownsRow B 51 1 (.slice y.FA x.m y.fc) x.m (u32s x.L)
def Inn (w : World) (B : Nat) (l lb : List El) : Prop := lb.length = l.length ∧ ∀ (i : Nat) (x y : El), l[i]? = some x → lb[i]? = some y → Bk w B x y
theorem Inn.turn {w w' : World} {B : Nat} {l lb : List El} (h : Inn w B l lb) (ht : ∀ (D : Option Addr) (n c : Nat) (xs : List Value), w.ownsRow B 51 1 (.slice D n c) n xs → w'.ownsRow B 51 1 (.slice D n c) n xs) : Inn w' B l lb :=
  ⟨h.1, fun i x y hx hy => ⟨(h.2 i x y hx hy).1, ht _ _ _ _ (h.2 i x y hx hy).2⟩⟩
theorem Inn.nil_ (w : World) (B : Nat) : Inn w B [] [] := ⟨rfl, fun i x y hx _ => by cases i <;> cases hx⟩
theorem Inn.snoc {w : World} {B : Nat} {l lb : List El} {x y : El} (h : Inn w B l lb) (hb : Bk w B x y) : Inn w B (l ++ [x]) (lb ++ [y]) := by
  refine ⟨by simp [h.1], fun i u v hu hv => ?_⟩
  by_cases hi : i < l.length
  · rw [List.getElem?_append_left hi] at hu
    rw [List.getElem?_append_left (by rw [h.1]; exact hi)] at hv
    exact h.2 i u v hu hv
  · rw [List.getElem?_append_right (by omega)] at hu
    rw [List.getElem?_append_right (by rw [h.1]; omega), h.1] at hv
    have hlt := (List.getElem?_eq_some_iff.1 hu).1
    simp at hlt
    have h0 : i - l.length = 0 := by omega
    rw [h0] at hu hv
    simp at hu hv
    subst hu hv
    exact hb
theorem eputs_drop (l : List El) (j : Nat) (h : j < l.length) : (l.drop j).flatMap El.put = l[j].put ++ (l.drop (j + 1)).flatMap El.put := by
  rw [List.drop_eq_getElem_cons h, List.flatMap_cons]

set_option maxRecDepth 100000 in
set_option maxHeartbeats 6400000 in
theorem egetall_ok (w : World) (X : Nat) (S : Nat → Prop) (D : Option Addr) (c : Nat) (bs : List UInt8) (h : Scn w X S D c bs 0) (l : List El) (n : Nat) (HN : Hid (n = l.length)) (hnb : n ≤ 1000) (hok : ∀ x ∈ l, x.wf ∧ x.err = 0) (hsm : ∀ x ∈ l, x.L.length ≤ 100) (hin : ∀ x ∈ l, x.L.length = x.m ∧ ∀ y ∈ x.L, y < 4294967296)  (hd : bs = putsE (uintF n) l n) :
    Calls Try.prog 98 #[.pointer (some ⟨X, 0, none⟩)] w fun e w' => ∃ D' c' lb, e = .returned (.slice D' n c') ∧ w'.ownsRow w.heap.size 136 5 (.slice D' n c') n (els lb) ∧ Inn w' w.heap.size l lb ∧ Step (fun i => i = X) w w' := by
  have hd0 : bs.drop 0 = uintF n ++ l.flatMap El.put := by rw [List.drop_zero, hd]; exact (by rw [HN.out]; exact putsE_all _ l)
  have hrd : Hid (rdU (bs.drop 0) = (n, (uintF n).length, 0)) := by rw [Hid, hd0]; exact (rdU_back n _ (by omega)).1
  have HD : Hid (bs.drop (0 + (uintF n).length) = l.flatMap El.put) := drop_app hd0
  have HLn : Hid (0 + (uintF n).length + (l.flatMap El.put).length = bs.length) := by
    have h5 := congrArg List.length hd0
    rw [List.drop_zero, List.length_append] at h5
    rw [Hid]
    omega
  have hxl := h.lt
  have hlow := h.low
  have HH := Lib.hid h
  have HOK := Lib.hid hok
  have HSM := Lib.hid hsm
  have HIN := Lib.hid hin
  obtain ⟨k2, hk2⟩ : ∃ k2, k2 = 0 + (uintF n).length := ⟨_, rfl⟩
  rw [← hk2] at HD HLn
  have HK2 := Lib.hid hk2
  clear h hd hd0 hok hk2 hsm hin
  go_enter Try.func98, Try.ntmps98
  go_wp2_with fail
  refine (count_ok _ X S D c bs 0 HH.out n _ hrd.out (by omega)).mono ?_
  rintro e w9 ⟨rfl, hs, ht⟩
  have HT9 := Lib.hid ht
  have HO9 : Hid (w9.ownsRow w.heap.size 136 5 (.slice none 0 0) 0 (els [])) := World.ownsRow_nil _ _ _ _
  have HK9 : Hid (Scn w9 X S D c bs (k2 + ((l.take 0).flatMap El.put).length)) := by rw [HK2.out]; exact hs
  clear hs ht hrd HH
  go_wp2_with fail
  go_loopw [3, 6] (fun ov iv wr => ∃ (j c2 : Nat) (D2 : Option Addr) (lb : List El), j ≤ n ∧ ov = .slice D2 j c2 ∧ iv = .int .i64 (j : Int) ∧
    Hid (wr.ownsRow w.heap.size 136 5 (.slice D2 j c2) j (els lb)) ∧ Hid (Inn wr w.heap.size (l.take j) lb) ∧ Hid (Scn wr X S D c bs (k2 + ((l.take j).flatMap El.put).length)) ∧ Hid (Step (fun i => i = X) w wr)) (fun _ iv _ => n + 1 - (intOf iv).toNat)
  case atStart => exact ⟨0, 0, none, [], by omega, rfl, rfl, HO9, Inn.nil_ _ _, HK9, HT9⟩
  case round =>
    obtain ⟨j, c2, D2, lb, hj, rfl, rfl, HOj, HJj, HKj, HTj⟩ := hrel
    clear HO9 HK9
    by_cases hlt : j < n
    · have g1 : (j : Int) < (n : Int) := by omega
      have hw1 := IntWalk.i64_in ((j : Int) + 1) (by omega)
      have hjl : j < l.length := by rw [← HN.out]; exact hlt
      have hx := HOK.out l[j] (List.getElem_mem hjl)
      have hds := HSM.out l[j] (List.getElem_mem hjl)
      have hin := HIN.out l[j] (List.getElem_mem hjl)
      have HU : Hid (l.take (j + 1) = l.take j ++ [l[j]]) := List.take_succ_eq_append_getElem hjl
      have hdj : bs.drop (k2 + ((l.take j).flatMap El.put).length) = l[j].put ++ (l.drop (j + 1)).flatMap El.put := by
        rw [← eputs_drop l j hjl]
        refine drop_app ?_
        rw [HD.out, ← List.flatMap_append, List.take_append_drop]
      have HK2' : Hid (k2 + ((l.take (j + 1)).flatMap El.put).length = k2 + ((l.take j).flatMap El.put).length + l[j].put.length) := by
        rw [Hid, List.take_succ_eq_append_getElem hjl, List.flatMap_append, List.length_append]
        simp
        omega
      obtain ⟨x, hxe⟩ : ∃ x, x = l[j] := ⟨_, rfl⟩
      rw [← hxe] at hx hds hin HU hdj HK2'
      clear hxe
      obtain ⟨kj, hkj⟩ : ∃ kj, kj = k2 + ((l.take j).flatMap El.put).length := ⟨_, rfl⟩
      rw [← hkj] at HKj hdj HK2'
      clear hkj
      obtain ⟨op, a, b, m, cc, fm, fc, B, FA, L⟩ := x
      obtain ⟨⟨h1, h2⟩, hz⟩ := hx
      simp only at h1 h2 hds hin
      obtain ⟨hfm, hLb⟩ := hin
      obtain ⟨_, _, hok⟩ := crt_zero hz
      simp only at hok
      have HG := Lib.hid (fun w' (h' : Scn w' X S D c bs kj) => eget_ok w' X S D c bs kj h' op a L _ hok h2 (by omega) hLb hdj)
      have hDX : blkOf D2 ≠ some X := by rw [← ownBlock_slice D2 j c2]; exact own_tag HOj.out HKj.out.blk (by decide)
      have hDge : ∀ q, blkOf D2 = some q → w.heap.size ≤ q := fun q hq => own_ge HOj.out q (by rw [ownBlock_slice]; exact hq)
      rw [hfm] at HG
      clear hdj hz hok hLb hfm
      simp only [elmC] at HG
      go_wp2_with fail
      refine (HG.out _ HKj.out).mono ?_
      rintro e wa ⟨DI, cI, rfl, hin, hsa, hta⟩
      have hin2 := own_base hin (base' := w.heap.size) (fun q hq => Nat.le_trans HTj.out.size (own_ge hin q hq))
      have HJa := Lib.hid (HJj.out.turn (w' := wa) (fun D n c xs h => own_step h hta (fun q hq e => own_tag h HKj.out.blk (by decide) (e ▸ hq))))
      have HNa := Lib.hid hin2
      clear hin hin2
      have hOa : Hid ((wa.alloc (.cells #[.int .u8 (op : Int), .int .u64 (a : Int), .int .u64 0, .slice none 0 0, .slice DI fm cI] 136)).ownsRow w.heap.size 136 5 (.slice D2 j c2) j (els lb)) :=
        (own_step HOj.out hta (fun q hq e => hDX (by rw [← ownBlock_slice D2 j c2, hq, e]))).alloc _
      have HKa := Lib.hid (hsa.alloc (.cells #[.int .u8 (op : Int), .int .u64 (a : Int), .int .u64 0, .slice none 0 0, .slice DI fm cI] 136))
      have HTa := Lib.hid ((HTj.out.trans hta).alloc (.cells #[.int .u8 (op : Int), .int .u64 (a : Int), .int .u64 0, .slice none 0 0, .slice DI fm cI] 136))
      have hrn := reads_new wa #[Value.int .u8 (op : Int), .int .u64 (a : Int), .int .u64 0, .slice none 0 0, .slice DI fm cI] 136 5 1 rfl
      have hone : ∀ u ∈ #[Value.int .u8 (op : Int), .int .u64 (a : Int), .int .u64 0, .slice none 0 0, .slice DI fm cI].toList, u.oneCell' = true := by simp [Value.oneCell']
      have hm : j + 1 ≤ maxLen := by unfold maxLen; omega
      have hsz := HTa.out.size
      clear hsa hta
      go_wp2_with (at_builtin; refine wpList_append_src _ rfl _ _ (by rfl) E_el (by rfl) hOa.out (by rfl) hrn hone hm (by omega) hsz ?_; intro D3 c3 w3 hown hgrow hat)
      have hkeep : ∀ (D : Option Addr) (n c : Nat) (xs : List Value), (wa.alloc (.cells #[.int .u8 (op : Int), .int .u64 (a : Int), .int .u64 0, .slice none 0 0, .slice DI fm cI] 136)).ownsRow w.heap.size 51 1 (.slice D n c) n xs → w3.ownsRow w.heap.size 51 1 (.slice D n c) n xs := fun D n c xs h => own_apart h hgrow (fun q hq e => own_tag2 h hOa.out (by decide) q hq (by rw [ownBlock_slice]; exact e))
      have HJ3 := Lib.hid ((HJa.out.turn (w' := wa.alloc (.cells #[.int .u8 (op : Int), .int .u64 (a : Int), .int .u64 0, .slice none 0 0, .slice DI fm cI] 136)) (fun D n c xs h => h.alloc _)).turn hkeep)
      have HN3 := hkeep DI fm cI _ (HNa.out.alloc _)
      have HK3 := Lib.hid (HKa.out.step (F := fun q => blkOf D2 = some q) (Step.refl.grown hgrow (fun q hq => .inl hq)) hDX (fun q hq hd => by have := hlow q hq; have := hDge q hd; omega))
      have HT3 := Lib.hid (HTa.out.grown hgrow (fun q hq => .inr (hDge q hq)))
      rw [show kj + (eputL op a L).length = k2 + ((l.take (j + 1)).flatMap El.put).length from HK2'.out.symm] at HK3
      have hus : els lb ++ #[Value.int .u8 (op : Int), .int .u64 (a : Int), .int .u64 0, .slice none 0 0, .slice DI fm cI].toList = els (lb ++ [El.back ⟨op, a, b, m, cc, fm, fc, B, FA, L⟩ DI cI]) := by rw [els_append]; rfl
      rw [hus] at hown
      have HJ4 : Hid (Inn w3 w.heap.size (l.take (j + 1)) (lb ++ [El.back ⟨op, a, b, m, cc, fm, fc, B, FA, L⟩ DI cI])) := by rw [HU.out]; exact HJ3.out.snoc ⟨rfl, HN3⟩
      go_roundw
      case rel => exact ⟨j + 1, c3, D3, _, by omega, rfl, by rw [Int.natCast_add]; rfl, hown, HJ4, HK3, HT3⟩
      case measure => simp [intOf]; omega
    · obtain rfl : j = n := by omega
      have hLt : l.take j = l := by rw [HN.out]; exact List.take_length
      rw [hLt] at HJj HKj
      have HKe : Hid (Scn wr X S D c bs bs.length) := by have h5 := HKj.out; rw [HLn.out] at h5; exact h5
      clear HKj
      go_wp2_with fail
      refine (send_ok _ X S D c bs HKe.out).mono ?_
      rintro e wz ⟨rfl, q, rfl⟩
      go_wp2_with fail
      go_ret
      exact ⟨D2, c2, lb, rfl, own_step HOj.out (Step.refl.drewN q (F := fun _ => False)) (fun _ _ => id), HJj.out.turn (fun D n c xs h => own_step h (Step.refl.drewN q (F := fun _ => False)) (fun _ _ => id)), HTj.out.drewN q⟩
end Go.Proofs.Ytfemeendkjcffaa
