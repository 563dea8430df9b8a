/-
  globals: GetAll of a list that may be.
-/
import Derived.Test.YtfemeendkjcffaaGbA
set_option linter.unusedVariables false
set_option linter.unusedSimpArgs false
namespace Go.Proofs.Ytfemeendkjcffaa
open Go.RowKit

set_option maxRecDepth 100000 in
set_option maxHeartbeats 1600000 in
theorem sdone_ok (w : World) (X : Nat) (S : Nat → Prop) (D : Option Addr) (c : Nat) (bs : List UInt8) (h : Scn w X S D c bs bs.length) :
    Calls Try.prog 199 #[.pointer (some ⟨X, 0, none⟩)] w fun e w' => e = .returned (.bool true) ∧ ∃ q, w' = w.drewN q := by
  have hz : ((bs.length : Int) - (bs.length : Int)) = 0 := by omega
  have HL := Lib.hid (left_walk w X S D c bs _ h)
  rw [hz] at HL
  clear h
  go_enter Try.func199, Try.ntmps199
  go_wp2_with fail
  refine HL.out.mono ?_
  rintro e w5 ⟨rfl, q, rfl⟩
  go_wp2_with fail
  go_ret
  exact ⟨rfl, q, rfl⟩

set_option maxRecDepth 100000 in
set_option maxHeartbeats 1600000 in
theorem send_ok (w : World) (X : Nat) (S : Nat → Prop) (D : Option Addr) (c : Nat) (bs : List UInt8) (h : Scn w X S D c bs bs.length) :
    Calls Try.prog 169 #[.pointer (some ⟨X, 0, none⟩)] w fun e w' => e = .returned (.tuple #[]) ∧ ∃ q, w' = w.drewN q := by
  have x1 := h.c1
  have HL : Hid (∀ q, Calls Try.prog 199 #[.pointer (some ⟨X, 0, none⟩)] (w.drewN q) fun e w' => e = .returned (.bool true) ∧ ∃ q', w' = (w.drewN q).drewN q') := fun q => sdone_ok _ X S D c bs (h.quiet (Step.refl.drewN q))
  clear h
  go_enter Try.func169, Try.ntmps169
  go_wp2_with fail
  go_quiet (first | (go_at_call 199; exact Calls.quiet_of (HL.out _)) | (go_at_call 143; exact Calls.quiet_of_same (aunless_ok _ _ _)))
  go_wp2_with fail
  go_end0
  exact ⟨rfl, nq, rfl⟩

/-- A global that may be, as it is read. -/
def Gl.back (x : Gl) : Gl := ⟨x.t, x.op, x.a, 0, 0, 0, x.m, none⟩
theorem back_cells (x : Gl) : x.back.cells = (gloC (x.t : Int) x.m (x.op : Int) (x.a : Int)).toList := rfl
theorem gls_snoc (l : List Gl) (j : Nat) (h : j < l.length) : gls ((l.take (j + 1)).map Gl.back) = gls ((l.take j).map Gl.back) ++ (gloC (l[j].t : Int) l[j].m (l[j].op : Int) (l[j].a : Int)).toList := by
  rw [List.take_succ_eq_append_getElem h, List.map_append, gls_append]
  simp [gls, back_cells]
theorem puts_drop (l : List Gl) (j : Nat) (h : j < l.length) : (l.drop j).flatMap Gl.put = l[j].put ++ (l.drop (j + 1)).flatMap Gl.put := by
  rw [List.drop_eq_getElem_cons h, List.flatMap_cons]

set_option maxRecDepth 100000 in
set_option maxHeartbeats 6400000 in
theorem ggetall_ok (w : World) (X : Nat) (S : Nat → Prop) (D : Option Addr) (c : Nat) (bs : List UInt8) (h : Scn w X S D c bs 0) (l : List Gl) (n : Nat) (HN : Hid (n = l.length)) (hnb : n ≤ 1000) (hok : ∀ x ∈ l, x.wf ∧ x.err = 0) (hd : bs = putsL (uintF n) l n) :
    Calls Try.prog 82 #[.pointer (some ⟨X, 0, none⟩)] w fun e w' => ∃ D' c', e = .returned (.slice D' n c') ∧ w'.ownsRow w.heap.size 115 6 (.slice D' n c') n (gls (l.map Gl.back)) ∧ Step (fun i => i = X) w w' := by
  have hd0 : bs.drop 0 = uintF n ++ l.flatMap Gl.put := by rw [List.drop_zero, hd]; exact (by rw [HN.out]; exact putsL_all _ l)
  have hrd : Hid (rdU (bs.drop 0) = (n, (uintF n).length, 0)) := by rw [Hid, hd0]; exact (rdU_back n _ (by omega)).1
  have HD : Hid (bs.drop (0 + (uintF n).length) = l.flatMap Gl.put) := drop_app hd0
  have HLn : Hid (0 + (uintF n).length + (l.flatMap Gl.put).length = bs.length) := by
    have h5 := congrArg List.length hd0
    rw [List.drop_zero, List.length_append] at h5
    rw [Hid]
    omega
  have hxl := h.lt
  have hlow := h.low
  have HH := Lib.hid h
  have HOK := Lib.hid hok
  obtain ⟨k2, hk2⟩ : ∃ k2, k2 = 0 + (uintF n).length := ⟨_, rfl⟩
  rw [← hk2] at HD HLn
  have HK2 := Lib.hid hk2
  clear h hd hd0 hok hk2
  go_enter Try.func82, Try.ntmps82
  go_wp2_with fail
  refine (count_ok _ X S D c bs 0 HH.out n _ hrd.out (by omega)).mono ?_
  rintro e w9 ⟨rfl, hs, ht⟩
  have HT9 := Lib.hid ht
  have HO9 : Hid (w9.ownsRow w.heap.size 115 6 (.slice none 0 0) 0 (gls ((l.take 0).map Gl.back))) := World.ownsRow_nil _ _ _ _
  have HK9 : Hid (Scn w9 X S D c bs (k2 + ((l.take 0).flatMap Gl.put).length)) := by rw [HK2.out]; exact hs
  clear hs ht hrd HH
  go_wp2_with fail
  go_loopw [3, 6] (fun ov iv wr => ∃ (j c2 : Nat) (D2 : Option Addr), j ≤ n ∧ ov = .slice D2 j c2 ∧ iv = .int .i64 (j : Int) ∧
    Hid (wr.ownsRow w.heap.size 115 6 (.slice D2 j c2) j (gls ((l.take j).map Gl.back))) ∧ Hid (Scn wr X S D c bs (k2 + ((l.take j).flatMap Gl.put).length)) ∧ Hid (Step (fun i => i = X) w wr)) (fun _ iv _ => n + 1 - (intOf iv).toNat)
  case atStart => exact ⟨0, 0, none, by omega, rfl, rfl, HO9, HK9, HT9⟩
  case round =>
    obtain ⟨j, c2, D2, hj, rfl, rfl, HOj, HKj, HTj⟩ := hrel
    clear HO9 HK9
    by_cases hlt : j < n
    · have g1 : (j : Int) < (n : Int) := by omega
      have hw1 := IntWalk.i64_in ((j : Int) + 1) (by omega)
      have hjl : j < l.length := by rw [← HN.out]; exact hlt
      have hx := HOK.out l[j] (List.getElem_mem hjl)
      have HU := Lib.hid (gls_snoc l j hjl)
      have hdj : bs.drop (k2 + ((l.take j).flatMap Gl.put).length) = l[j].put ++ (l.drop (j + 1)).flatMap Gl.put := by
        rw [← puts_drop l j hjl]
        refine drop_app ?_
        rw [HD.out, ← List.flatMap_append, List.take_append_drop]
      have HK2' : Hid (k2 + ((l.take (j + 1)).flatMap Gl.put).length = k2 + ((l.take j).flatMap Gl.put).length + l[j].put.length) := by
        rw [Hid, List.take_succ_eq_append_getElem hjl, List.flatMap_append, List.length_append]
        simp
        omega
      obtain ⟨x, hxe⟩ : ∃ x, x = l[j] := ⟨_, rfl⟩
      rw [← hxe] at hx HU hdj HK2'
      clear hxe
      obtain ⟨kj, hkj⟩ : ∃ kj, kj = k2 + ((l.take j).flatMap Gl.put).length := ⟨_, rfl⟩
      rw [← hkj] at HKj hdj HK2'
      clear hkj
      obtain ⟨t, op, a, b, m, cc, mu, B⟩ := x
      obtain ⟨⟨h1, h2, h3⟩, hz⟩ := hx
      simp only at h1 h2 h3
      obtain ⟨hv, hz2⟩ := glb_zero hz
      obtain ⟨_, _, hok⟩ := crt_zero hz2
      simp only at hv hok
      have HG := Lib.hid (fun w' (h' : Scn w' X S D c bs kj) => gget_ok w' X S D c bs kj h' t mu op a _ h1 hv hok h3 hdj)
      have hDX : blkOf D2 ≠ some X := by rw [← ownBlock_slice D2 j c2]; exact own_tag HOj.out HKj.out.blk (by decide)
      have hDge : ∀ q, blkOf D2 = some q → w.heap.size ≤ q := fun q hq => own_ge HOj.out q (by rw [ownBlock_slice]; exact hq)
      clear hdj hz hz2 hv hok
      simp only [gloC] at HG
      go_wp2_with fail
      refine (HG.out _ HKj.out).mono ?_
      rintro e wa ⟨rfl, hsa, hta⟩
      have hOa : Hid ((wa.alloc (.cells #[.int .u8 (t : Int), .bool mu, .int .u8 (op : Int), .int .u64 (a : Int), .int .u64 0, .slice none 0 0] 115)).ownsRow w.heap.size 115 6 (.slice D2 j c2) j (gls ((l.take j).map Gl.back))) :=
        (own_step HOj.out hta (fun q hq e => hDX (by rw [← ownBlock_slice D2 j c2, hq, e]))).alloc _
      have HKa := Lib.hid (hsa.alloc (.cells #[.int .u8 (t : Int), .bool mu, .int .u8 (op : Int), .int .u64 (a : Int), .int .u64 0, .slice none 0 0] 115))
      have HTa := Lib.hid ((HTj.out.trans hta).alloc (.cells #[.int .u8 (t : Int), .bool mu, .int .u8 (op : Int), .int .u64 (a : Int), .int .u64 0, .slice none 0 0] 115))
      have hrn := reads_new wa #[Value.int .u8 (t : Int), .bool mu, .int .u8 (op : Int), .int .u64 (a : Int), .int .u64 0, .slice none 0 0] 115 6 1 rfl
      have hone : ∀ u ∈ #[Value.int .u8 (t : Int), .bool mu, .int .u8 (op : Int), .int .u64 (a : Int), .int .u64 0, .slice none 0 0].toList, u.oneCell' = true := by simp [Value.oneCell']
      have hm : j + 1 ≤ maxLen := by unfold maxLen; omega
      have hsz := HTa.out.size
      clear hsa hta
      go_wp2_with (at_builtin; refine wpList_append_src _ rfl _ _ (by rfl) E_gl (by rfl) hOa.out (by rfl) hrn hone hm (by omega) hsz ?_; intro D3 c3 w3 hown hgrow hat)
      have HK3 := Lib.hid (HKa.out.step (F := fun q => blkOf D2 = some q) (Step.refl.grown hgrow (fun q hq => .inl hq)) hDX (fun q hq hd => by have := hlow q hq; have := hDge q hd; omega))
      have HT3 := Lib.hid (HTa.out.grown hgrow (fun q hq => .inr (hDge q hq)))
      rw [show kj + (gputL t mu op a).length = k2 + ((l.take (j + 1)).flatMap Gl.put).length from HK2'.out.symm] at HK3
      have hus : gls ((l.take j).map Gl.back) ++ #[Value.int .u8 (t : Int), .bool mu, .int .u8 (op : Int), .int .u64 (a : Int), .int .u64 0, .slice none 0 0].toList = gls ((l.take (j + 1)).map Gl.back) := by rw [HU.out]; rfl
      rw [hus] at hown
      go_roundw
      case rel => exact ⟨j + 1, c3, D3, by omega, rfl, by rw [Int.natCast_add]; rfl, hown, HK3, HT3⟩
      case measure => simp [intOf]; omega
    · obtain rfl : j = n := by omega
      have hLt : l.take j = l := by rw [HN.out]; exact List.take_length
      rw [hLt] at HOj HKj
      have HKe : Hid (Scn wr X S D c bs bs.length) := by have h5 := HKj.out; rw [HLn.out] at h5; exact h5
      clear HKj
      go_wp2_with fail
      refine (send_ok _ X S D c bs HKe.out).mono ?_
      rintro e wz ⟨rfl, q, rfl⟩
      go_wp2_with fail
      go_ret
      exact ⟨D2, c2, rfl, own_step HOj.out (Step.refl.drewN q (F := fun _ => False)) (fun _ _ => id), HTj.out.drewN q⟩
end Go.Proofs.Ytfemeendkjcffaa
