/-
  datas: GetAll of a list that may be.
-/
import Derived.Test.YtfemeendkjcffaaDbA
set_option linter.unusedVariables false
set_option linter.unusedSimpArgs false
namespace Go.Proofs.Ytfemeendkjcffaa
open Go.RowKit

/-- A global that may be, as it is read. -/
def Dl.back (x : Dl) : Dl := ⟨x.op, x.a, 0, 0, 0, none, x.ds⟩
theorem dback_cells (x : Dl) : x.back.cells = (datC (x.op : Int) (x.a : Int) (str x.ds)).toList := rfl
theorem dls_snoc (l : List Dl) (j : Nat) (h : j < l.length) : dls ((l.take (j + 1)).map Dl.back) = dls ((l.take j).map Dl.back) ++ (datC (l[j].op : Int) (l[j].a : Int) (str l[j].ds)).toList := by
  rw [List.take_succ_eq_append_getElem h, List.map_append, dls_append]
  simp [dls, dback_cells]
theorem dputs_drop (l : List Dl) (j : Nat) (h : j < l.length) : (l.drop j).flatMap Dl.put = l[j].put ++ (l.drop (j + 1)).flatMap Dl.put := by
  rw [List.drop_eq_getElem_cons h, List.flatMap_cons]

set_option maxRecDepth 100000 in
set_option maxHeartbeats 6400000 in
theorem dgetall_ok (w : World) (X : Nat) (S : Nat → Prop) (D : Option Addr) (c : Nat) (bs : List UInt8) (h : Scn w X S D c bs 0) (l : List Dl) (n : Nat) (HN : Hid (n = l.length)) (hnb : n ≤ 1000) (hok : ∀ x ∈ l, x.wf ∧ x.err = 0) (hsm : ∀ x ∈ l, x.ds.length ≤ 200)  (hd : bs = putsD (uintF n) l n) :
    Calls Try.prog 114 #[.pointer (some ⟨X, 0, none⟩)] w fun e w' => ∃ D' c', e = .returned (.slice D' n c') ∧ w'.ownsRow w.heap.size 156 5 (.slice D' n c') n (dls (l.map Dl.back)) ∧ Step (fun i => i = X) w w' := by
  have hd0 : bs.drop 0 = uintF n ++ l.flatMap Dl.put := by rw [List.drop_zero, hd]; exact (by rw [HN.out]; exact putsD_all _ l)
  have hrd : Hid (rdU (bs.drop 0) = (n, (uintF n).length, 0)) := by rw [Hid, hd0]; exact (rdU_back n _ (by omega)).1
  have HD : Hid (bs.drop (0 + (uintF n).length) = l.flatMap Dl.put) := drop_app hd0
  have HLn : Hid (0 + (uintF n).length + (l.flatMap Dl.put).length = bs.length) := by
    have h5 := congrArg List.length hd0
    rw [List.drop_zero, List.length_append] at h5
    rw [Hid]
    omega
  have hxl := h.lt
  have hlow := h.low
  have HH := Lib.hid h
  have HOK := Lib.hid hok
  have HSM := Lib.hid hsm
  obtain ⟨k2, hk2⟩ : ∃ k2, k2 = 0 + (uintF n).length := ⟨_, rfl⟩
  rw [← hk2] at HD HLn
  have HK2 := Lib.hid hk2
  clear h hd hd0 hok hk2 hsm
  go_enter Try.func114, Try.ntmps114
  go_wp2_with fail
  refine (count_ok _ X S D c bs 0 HH.out n _ hrd.out (by omega)).mono ?_
  rintro e w9 ⟨rfl, hs, ht⟩
  have HT9 := Lib.hid ht
  have HO9 : Hid (w9.ownsRow w.heap.size 156 5 (.slice none 0 0) 0 (dls ((l.take 0).map Dl.back))) := World.ownsRow_nil _ _ _ _
  have HK9 : Hid (Scn w9 X S D c bs (k2 + ((l.take 0).flatMap Dl.put).length)) := by rw [HK2.out]; exact hs
  clear hs ht hrd HH
  go_wp2_with fail
  go_loopw [3, 6] (fun ov iv wr => ∃ (j c2 : Nat) (D2 : Option Addr), j ≤ n ∧ ov = .slice D2 j c2 ∧ iv = .int .i64 (j : Int) ∧
    Hid (wr.ownsRow w.heap.size 156 5 (.slice D2 j c2) j (dls ((l.take j).map Dl.back))) ∧ Hid (Scn wr X S D c bs (k2 + ((l.take j).flatMap Dl.put).length)) ∧ Hid (Step (fun i => i = X) w wr)) (fun _ iv _ => n + 1 - (intOf iv).toNat)
  case atStart => exact ⟨0, 0, none, by omega, rfl, rfl, HO9, HK9, HT9⟩
  case round =>
    obtain ⟨j, c2, D2, hj, rfl, rfl, HOj, HKj, HTj⟩ := hrel
    clear HO9 HK9
    by_cases hlt : j < n
    · have g1 : (j : Int) < (n : Int) := by omega
      have hw1 := IntWalk.i64_in ((j : Int) + 1) (by omega)
      have hjl : j < l.length := by rw [← HN.out]; exact hlt
      have hx := HOK.out l[j] (List.getElem_mem hjl)
      have hds := HSM.out l[j] (List.getElem_mem hjl)
      have HU := Lib.hid (dls_snoc l j hjl)
      have hdj : bs.drop (k2 + ((l.take j).flatMap Dl.put).length) = l[j].put ++ (l.drop (j + 1)).flatMap Dl.put := by
        rw [← dputs_drop l j hjl]
        refine drop_app ?_
        rw [HD.out, ← List.flatMap_append, List.take_append_drop]
      have HK2' : Hid (k2 + ((l.take (j + 1)).flatMap Dl.put).length = k2 + ((l.take j).flatMap Dl.put).length + l[j].put.length) := by
        rw [Hid, List.take_succ_eq_append_getElem hjl, List.flatMap_append, List.length_append]
        simp
        omega
      obtain ⟨x, hxe⟩ : ∃ x, x = l[j] := ⟨_, rfl⟩
      rw [← hxe] at hx hds HU hdj HK2'
      clear hxe
      obtain ⟨kj, hkj⟩ : ∃ kj, kj = k2 + ((l.take j).flatMap Dl.put).length := ⟨_, rfl⟩
      rw [← hkj] at HKj hdj HK2'
      clear hkj
      obtain ⟨op, a, b, m, cc, B, ds⟩ := x
      obtain ⟨⟨h1, h2⟩, hz⟩ := hx
      simp only at h1 h2 hds
      obtain ⟨_, _, hok⟩ := crt_zero hz
      simp only at hok
      have HG := Lib.hid (fun w' (h' : Scn w' X S D c bs kj) => dget_ok w' X S D c bs kj h' op a ds _ hok h2 (by omega) hdj)
      have hDX : blkOf D2 ≠ some X := by rw [← ownBlock_slice D2 j c2]; exact own_tag HOj.out HKj.out.blk (by decide)
      have hDge : ∀ q, blkOf D2 = some q → w.heap.size ≤ q := fun q hq => own_ge HOj.out q (by rw [ownBlock_slice]; exact hq)
      have HSD : Hid (∃ sd, sd = str ds) := ⟨_, rfl⟩
      obtain ⟨sd, hsd⟩ := HSD.out
      rw [← hsd] at HG
      have HSE := Lib.hid hsd
      clear hdj hz hok hsd HSD
      simp only [datC] at HG
      go_wp2_with fail
      refine (HG.out _ HKj.out).mono ?_
      rintro e wa ⟨rfl, hsa, hta⟩
      have hOa : Hid ((wa.alloc (.cells #[.int .u8 (op : Int), .int .u64 (a : Int), .int .u64 0, .slice none 0 0, .string sd] 156)).ownsRow w.heap.size 156 5 (.slice D2 j c2) j (dls ((l.take j).map Dl.back))) :=
        (own_step HOj.out hta (fun q hq e => hDX (by rw [← ownBlock_slice D2 j c2, hq, e]))).alloc _
      have HKa := Lib.hid (hsa.alloc (.cells #[.int .u8 (op : Int), .int .u64 (a : Int), .int .u64 0, .slice none 0 0, .string sd] 156))
      have HTa := Lib.hid ((HTj.out.trans hta).alloc (.cells #[.int .u8 (op : Int), .int .u64 (a : Int), .int .u64 0, .slice none 0 0, .string sd] 156))
      have hrn := reads_new wa #[Value.int .u8 (op : Int), .int .u64 (a : Int), .int .u64 0, .slice none 0 0, .string sd] 156 5 1 rfl
      have hone : ∀ u ∈ #[Value.int .u8 (op : Int), .int .u64 (a : Int), .int .u64 0, .slice none 0 0, .string sd].toList, u.oneCell' = true := by simp [Value.oneCell']
      have hm : j + 1 ≤ maxLen := by unfold maxLen; omega
      have hsz := HTa.out.size
      clear hsa hta
      go_wp2_with (at_builtin; refine wpList_append_src _ rfl _ _ (by rfl) E_da (by rfl) hOa.out (by rfl) hrn hone hm (by omega) hsz ?_; intro D3 c3 w3 hown hgrow hat)
      have HK3 := Lib.hid (HKa.out.step (F := fun q => blkOf D2 = some q) (Step.refl.grown hgrow (fun q hq => .inl hq)) hDX (fun q hq hd => by have := hlow q hq; have := hDge q hd; omega))
      have HT3 := Lib.hid (HTa.out.grown hgrow (fun q hq => .inr (hDge q hq)))
      rw [show kj + (dputL op a ds).length = k2 + ((l.take (j + 1)).flatMap Dl.put).length from HK2'.out.symm] at HK3
      have hus : dls ((l.take j).map Dl.back) ++ #[Value.int .u8 (op : Int), .int .u64 (a : Int), .int .u64 0, .slice none 0 0, .string sd].toList = dls ((l.take (j + 1)).map Dl.back) := by rw [HU.out, HSE.out]; rfl
      rw [hus] at hown
      go_roundw
      case rel => exact ⟨j + 1, c3, D3, by omega, rfl, by rw [Int.natCast_add]; rfl, hown, HK3, HT3⟩
      case measure => simp [intOf]; omega
    · obtain rfl : j = n := by omega
      have hLt : l.take j = l := by rw [HN.out]; exact List.take_length
      rw [hLt] at HOj HKj
      have HKe : Hid (Scn wr X S D c bs bs.length) := by have h5 := HKj.out; rw [HLn.out] at h5; exact h5
      clear HKj
      go_wp2_with fail
      refine (send_ok _ X S D c bs HKe.out).mono ?_
      rintro e wz ⟨rfl, q, rfl⟩
      go_wp2_with fail
      go_ret
      exact ⟨D2, c2, rfl, own_step HOj.out (Step.refl.drewN q (F := fun _ => False)) (fun _ _ => id), HTj.out.drewN q⟩
end Go.Proofs.Ytfemeendkjcffaa
