/-
  Ebb: EbB, EbC.
-/
import Derived.Test.YtfemeendkjcffaaEbA
set_option linter.unusedVariables false
set_option linter.unusedSimpArgs false
/-! elems: GetAll of a list that may be. -/
namespace Go.Proofs.Ytfemeendkjcffaa
open Go.RowKit

/-- A row that may be, as it is read. -/
def El.back (x : El) (D : Option Addr) (f : Nat) : El := ⟨x.op, x.a, 0, 0, 0, x.m, f, none, D, x.L⟩
def Bk (w : World) (B : Nat) (x y : El) : Prop := y = x.back y.FA y.fc ∧ w.ownsRow B 51 1 (.slice y.FA x.m y.fc) x.m (u32s x.L)
def Inn (w : World) (B : Nat) (l lb : List El) : Prop := lb.length = l.length ∧ ∀ (i : Nat) (x y : El), l[i]? = some x → lb[i]? = some y → Bk w B x y
theorem Inn.turn {w w' : World} {B : Nat} {l lb : List El} (h : Inn w B l lb) (ht : ∀ (D : Option Addr) (n c : Nat) (xs : List Value), w.ownsRow B 51 1 (.slice D n c) n xs → w'.ownsRow B 51 1 (.slice D n c) n xs) : Inn w' B l lb :=
  ⟨h.1, fun i x y hx hy => ⟨(h.2 i x y hx hy).1, ht _ _ _ _ (h.2 i x y hx hy).2⟩⟩
theorem Inn.nil_ (w : World) (B : Nat) : Inn w B [] [] := ⟨rfl, fun i x y hx _ => by cases i <;> cases hx⟩
theorem Inn.snoc {w : World} {B : Nat} {l lb : List El} {x y : El} (h : Inn w B l lb) (hb : Bk w B x y) : Inn w B (l ++ [x]) (lb ++ [y]) := by
  refine ⟨by simp [h.1], fun i u v hu hv => ?_⟩
  by_cases hi : i < l.length
  · rw [List.getElem?_append_left hi] at hu
    rw [List.getElem?_append_left (by rw [h.1]; exact hi)] at hv
    exact h.2 i u v hu hv
  · rw [List.getElem?_append_right (by omega)] at hu
    rw [List.getElem?_append_right (by rw [h.1]; omega), h.1] at hv
    have hlt := (List.getElem?_eq_some_iff.1 hu).1
    simp at hlt
    have h0 : i - l.length = 0 := by omega
    rw [h0] at hu hv
    simp at hu hv
    subst hu hv
    exact hb
theorem eputs_drop (l : List El) (j : Nat) (h : j < l.length) : (l.drop j).flatMap El.put = l[j].put ++ (l.drop (j + 1)).flatMap El.put := by
  rw [List.drop_eq_getElem_cons h, List.flatMap_cons]

set_option maxRecDepth 100000 in
set_option maxHeartbeats 6400000 in
theorem egetall_ok (w : World) (X : Nat) (S : Nat → Prop) (D : Option Addr) (c : Nat) (bs : List UInt8) (h : Scn w X S D c bs 0) (l : List El) (n : Nat) (HN : Hid (n = l.length)) (hnb : n ≤ 1000) (hok : ∀ x ∈ l, x.wf ∧ x.err = 0) (hsm : ∀ x ∈ l, x.L.length ≤ 100) (hin : ∀ x ∈ l, x.L.length = x.m ∧ ∀ y ∈ x.L, y < 4294967296)  (hd : bs = putsE (uintF n) l n) :
    Calls Try.prog 98 #[.pointer (some ⟨X, 0, none⟩)] w fun e w' => ∃ D' c' lb, e = .returned (.slice D' n c') ∧ w'.ownsRow w.heap.size 136 5 (.slice D' n c') n (els lb) ∧ Inn w' w.heap.size l lb ∧ Step (fun i => i = X) w w' := by
  have hd0 : bs.drop 0 = uintF n ++ l.flatMap El.put := by rw [List.drop_zero, hd]; exact (by rw [HN.out]; exact putsE_all _ l)
  have hrd : Hid (rdU (bs.drop 0) = (n, (uintF n).length, 0)) := by rw [Hid, hd0]; exact (rdU_back n _ (by omega)).1
  have HD : Hid (bs.drop (0 + (uintF n).length) = l.flatMap El.put) := drop_app hd0
  have HLn : Hid (0 + (uintF n).length + (l.flatMap El.put).length = bs.length) := by
    have h5 := congrArg List.length hd0
    rw [List.drop_zero, List.length_append] at h5
    rw [Hid]
    omega
  have hxl := h.lt
  have hlow := h.low
  have HH := Lib.hid h
  have HOK := Lib.hid hok
  have HSM := Lib.hid hsm
  have HIN := Lib.hid hin
  obtain ⟨k2, hk2⟩ : ∃ k2, k2 = 0 + (uintF n).length := ⟨_, rfl⟩
  rw [← hk2] at HD HLn
  have HK2 := Lib.hid hk2
  clear h hd hd0 hok hk2 hsm hin
  go_enter Try.func98, Try.ntmps98
  go_wp2_with fail
  refine (count_ok _ X S D c bs 0 HH.out n _ hrd.out (by omega)).mono ?_
  rintro e w9 ⟨rfl, hs, ht⟩
  have HT9 := Lib.hid ht
  have HO9 : Hid (w9.ownsRow w.heap.size 136 5 (.slice none 0 0) 0 (els [])) := World.ownsRow_nil _ _ _ _
  have HK9 : Hid (Scn w9 X S D c bs (k2 + ((l.take 0).flatMap El.put).length)) := by rw [HK2.out]; exact hs
  clear hs ht hrd HH
  go_wp2_with fail
  go_loopw [3, 6] (fun ov iv wr => ∃ (j c2 : Nat) (D2 : Option Addr) (lb : List El), j ≤ n ∧ ov = .slice D2 j c2 ∧ iv = .int .i64 (j : Int) ∧
    Hid (wr.ownsRow w.heap.size 136 5 (.slice D2 j c2) j (els lb)) ∧ Hid (Inn wr w.heap.size (l.take j) lb) ∧ Hid (Scn wr X S D c bs (k2 + ((l.take j).flatMap El.put).length)) ∧ Hid (Step (fun i => i = X) w wr)) (fun _ iv _ => n + 1 - (intOf iv).toNat)
  case atStart => exact ⟨0, 0, none, [], by omega, rfl, rfl, HO9, Inn.nil_ _ _, HK9, HT9⟩
  case round =>
    obtain ⟨j, c2, D2, lb, hj, rfl, rfl, HOj, HJj, HKj, HTj⟩ := hrel
    clear HO9 HK9
    by_cases hlt : j < n
    · have g1 : (j : Int) < (n : Int) := by omega
      have hw1 := IntWalk.i64_in ((j : Int) + 1) (by omega)
      have hjl : j < l.length := by rw [← HN.out]; exact hlt
      have hx := HOK.out l[j] (List.getElem_mem hjl)
      have hds := HSM.out l[j] (List.getElem_mem hjl)
      have hin := HIN.out l[j] (List.getElem_mem hjl)
      have HU : Hid (l.take (j + 1) = l.take j ++ [l[j]]) := List.take_succ_eq_append_getElem hjl
      have hdj : bs.drop (k2 + ((l.take j).flatMap El.put).length) = l[j].put ++ (l.drop (j + 1)).flatMap El.put := by
        rw [← eputs_drop l j hjl]
        refine drop_app ?_
        rw [HD.out, ← List.flatMap_append, List.take_append_drop]
      have HK2' : Hid (k2 + ((l.take (j + 1)).flatMap El.put).length = k2 + ((l.take j).flatMap El.put).length + l[j].put.length) := by
        rw [Hid, List.take_succ_eq_append_getElem hjl, List.flatMap_append, List.length_append]
        simp
        omega
      obtain ⟨x, hxe⟩ : ∃ x, x = l[j] := ⟨_, rfl⟩
      rw [← hxe] at hx hds hin HU hdj HK2'
      clear hxe
      obtain ⟨kj, hkj⟩ : ∃ kj, kj = k2 + ((l.take j).flatMap El.put).length := ⟨_, rfl⟩
      rw [← hkj] at HKj hdj HK2'
      clear hkj
      obtain ⟨op, a, b, m, cc, fm, fc, B, FA, L⟩ := x
      obtain ⟨⟨h1, h2⟩, hz⟩ := hx
      simp only at h1 h2 hds hin
      obtain ⟨hfm, hLb⟩ := hin
      obtain ⟨_, _, hok⟩ := crt_zero hz
      simp only at hok
      have HG := Lib.hid (fun w' (h' : Scn w' X S D c bs kj) => eget_ok w' X S D c bs kj h' op a L _ hok h2 (by omega) hLb hdj)
      have hDX : blkOf D2 ≠ some X := by rw [← ownBlock_slice D2 j c2]; exact own_tag HOj.out HKj.out.blk (by decide)
      have hDge : ∀ q, blkOf D2 = some q → w.heap.size ≤ q := fun q hq => own_ge HOj.out q (by rw [ownBlock_slice]; exact hq)
      rw [hfm] at HG
      clear hdj hz hok hLb hfm
      simp only [elmC] at HG
      go_wp2_with fail
      refine (HG.out _ HKj.out).mono ?_
      rintro e wa ⟨DI, cI, rfl, hin, hsa, hta⟩
      have hin2 := own_base hin (base' := w.heap.size) (fun q hq => Nat.le_trans HTj.out.size (own_ge hin q hq))
      have HJa := Lib.hid (HJj.out.turn (w' := wa) (fun D n c xs h => own_step h hta (fun q hq e => own_tag h HKj.out.blk (by decide) (e ▸ hq))))
      have HNa := Lib.hid hin2
      clear hin hin2
      have hOa : Hid ((wa.alloc (.cells #[.int .u8 (op : Int), .int .u64 (a : Int), .int .u64 0, .slice none 0 0, .slice DI fm cI] 136)).ownsRow w.heap.size 136 5 (.slice D2 j c2) j (els lb)) :=
        (own_step HOj.out hta (fun q hq e => hDX (by rw [← ownBlock_slice D2 j c2, hq, e]))).alloc _
      have HKa := Lib.hid (hsa.alloc (.cells #[.int .u8 (op : Int), .int .u64 (a : Int), .int .u64 0, .slice none 0 0, .slice DI fm cI] 136))
      have HTa := Lib.hid ((HTj.out.trans hta).alloc (.cells #[.int .u8 (op : Int), .int .u64 (a : Int), .int .u64 0, .slice none 0 0, .slice DI fm cI] 136))
      have hrn := reads_new wa #[Value.int .u8 (op : Int), .int .u64 (a : Int), .int .u64 0, .slice none 0 0, .slice DI fm cI] 136 5 1 rfl
      have hone : ∀ u ∈ #[Value.int .u8 (op : Int), .int .u64 (a : Int), .int .u64 0, .slice none 0 0, .slice DI fm cI].toList, u.oneCell' = true := by simp [Value.oneCell']
      have hm : j + 1 ≤ maxLen := by unfold maxLen; omega
      have hsz := HTa.out.size
      clear hsa hta
      go_wp2_with (at_builtin; refine wpList_append_src _ rfl _ _ (by rfl) E_el (by rfl) hOa.out (by rfl) hrn hone hm (by omega) hsz ?_; intro D3 c3 w3 hown hgrow hat)
      have hkeep : ∀ (D : Option Addr) (n c : Nat) (xs : List Value), (wa.alloc (.cells #[.int .u8 (op : Int), .int .u64 (a : Int), .int .u64 0, .slice none 0 0, .slice DI fm cI] 136)).ownsRow w.heap.size 51 1 (.slice D n c) n xs → w3.ownsRow w.heap.size 51 1 (.slice D n c) n xs := fun D n c xs h => own_apart h hgrow (fun q hq e => own_tag2 h hOa.out (by decide) q hq (by rw [ownBlock_slice]; exact e))
      have HJ3 := Lib.hid ((HJa.out.turn (w' := wa.alloc (.cells #[.int .u8 (op : Int), .int .u64 (a : Int), .int .u64 0, .slice none 0 0, .slice DI fm cI] 136)) (fun D n c xs h => h.alloc _)).turn hkeep)
      have HN3 := hkeep DI fm cI _ (HNa.out.alloc _)
      have HK3 := Lib.hid (HKa.out.step (F := fun q => blkOf D2 = some q) (Step.refl.grown hgrow (fun q hq => .inl hq)) hDX (fun q hq hd => by have := hlow q hq; have := hDge q hd; omega))
      have HT3 := Lib.hid (HTa.out.grown hgrow (fun q hq => .inr (hDge q hq)))
      rw [show kj + (eputL op a L).length = k2 + ((l.take (j + 1)).flatMap El.put).length from HK2'.out.symm] at HK3
      have hus : els lb ++ #[Value.int .u8 (op : Int), .int .u64 (a : Int), .int .u64 0, .slice none 0 0, .slice DI fm cI].toList = els (lb ++ [El.back ⟨op, a, b, m, cc, fm, fc, B, FA, L⟩ DI cI]) := by rw [els_append]; rfl
      rw [hus] at hown
      have HJ4 : Hid (Inn w3 w.heap.size (l.take (j + 1)) (lb ++ [El.back ⟨op, a, b, m, cc, fm, fc, B, FA, L⟩ DI cI])) := by rw [HU.out]; exact HJ3.out.snoc ⟨rfl, HN3⟩
      go_roundw
      case rel => exact ⟨j + 1, c3, D3, _, by omega, rfl, by rw [Int.natCast_add]; rfl, hown, HJ4, HK3, HT3⟩
      case measure => simp [intOf]; omega
    · obtain rfl : j = n := by omega
      have hLt : l.take j = l := by rw [HN.out]; exact List.take_length
      rw [hLt] at HJj HKj
      have HKe : Hid (Scn wr X S D c bs bs.length) := by have h5 := HKj.out; rw [HLn.out] at h5; exact h5
      clear HKj
      go_wp2_with fail
      refine (send_ok _ X S D c bs HKe.out).mono ?_
      rintro e wz ⟨rfl, q, rfl⟩
      go_wp2_with fail
      go_ret
      exact ⟨D2, c2, lb, rfl, own_step HOj.out (Step.refl.drewN q (F := fun _ => False)) (fun _ _ => id), HJj.out.turn (fun D n c xs h => own_step h (Step.refl.drewN q (F := fun _ => False)) (fun _ _ => id)), HTj.out.drewN q⟩
end Go.Proofs.Ytfemeendkjcffaa
/-! abort: Value of a list of rows of bytes, where nothing is given up; the law's closure. -/
namespace Go.Proofs.Ytfemeendkjcffaa
open Go.RowKit

section
variable (h : FuncId) (caps : Array Value) (w : World) (F : Nat → Prop) (Q : Option Addr → Nat → World → World → Prop) (n : Nat) (hcf : ∀ w : World, (callFunc h caps).run Try.prog w = .ok (.enter h caps) w)
include hcf

set_option maxRecDepth 100000 in
set_option maxHeartbeats 1600000 in
theorem ebclo_ok (fb vb : Nat) (H : Calls Try.prog h caps w fun e w' => ∃ Dz cz, e = .returned (.slice Dz n cz) ∧ Step F w w' ∧ Q Dz cz w w') (hf : Blk w fb 151 #[.func (.func h) #[] caps]) (hv : Blk w vb 147 #[.slice none 0 0]) (hFv : ¬ F vb) :
    Calls Try.prog 176 #[.pointer (some ⟨fb, 0, none⟩), .pointer (some ⟨vb, 0, none⟩)] w fun e w' => e = .returned (.tuple #[]) ∧ ∃ Dz cz w1, Step F w w1 ∧ Q Dz cz w w1 ∧ Blk w' vb 147 #[.slice Dz n cz] ∧ Step (fun k => k = vb) w1 w' := by
  have c0 := hf.cell 0
  simp at c0
  have HH := Lib.hid H
  have HV := Lib.hid hv
  clear H hf hv
  go_enter Try.func176, Try.ntmps176
  go_wp2_with fail
  refine HH.out.mono ?_
  rintro e w1 ⟨Dz, cz, rfl, hs, hq⟩
  have HB := HV.out.step hs hFv
  have zz := HB.frozen 0
  have cc := HB.cell 0
  simp at cc
  have hB2 := HB.set_ 0 (.slice Dz n cz)
  simp at hB2
  go_wp2_with fail
  go_end0
  exact ⟨rfl, Dz, cz, w1, hs, hq, hB2, Step.setCell (F := fun k => k = vb) (p := ⟨vb, 0, none⟩) Step.refl (.inl rfl) _⟩

set_option maxRecDepth 100000 in
set_option maxHeartbeats 3200000 in
theorem ebvalue_ok (hF : ∀ k, F k → k < w.heap.size) (H : ∀ w', Step (fun _ => False) w w' → Calls Try.prog h caps w' fun e w'' => ∃ Dz cz, e = .returned (.slice Dz n cz) ∧ Step F w' w'' ∧ Q Dz cz w' w'') :
    Calls Try.prog 96 #[.func (.func h) #[] caps] w fun e w' => ∃ Dz cz, e = .returned (.tuple #[.slice Dz n cz, .agg #[.int .i64 0, .int .i64 0]]) ∧
      ∃ wa wb, Step (fun _ => False) w wa ∧ Step F wa wb ∧ Q Dz cz wa wb ∧ Step (fun k => w.heap.size ≤ k ∧ k < wa.heap.size) wb w' := by
  have hmf : ∀ (fn : Fn) (first cap : Array Value) (w : World), (Instr.makeFunc fn first cap).run Try.prog w = .ok (.func fn first cap) w := fun _ _ _ _ => rfl
  have HH := Lib.hid H
  clear H
  obtain ⟨v1, hv1⟩ : ∃ v1, v1 = w.alloc (.cells #[.func (.func h) #[] caps] 151) := ⟨_, rfl⟩
  obtain ⟨v2, hv2⟩ : ∃ v2, v2 = v1.alloc (.cells #[.int .i64 0, .int .i64 0] 85) := ⟨_, rfl⟩
  obtain ⟨v3, hv3⟩ : ∃ v3, v3 = v2.alloc (.cells #[.slice none 0 0] 147) := ⟨_, rfl⟩
  obtain ⟨v4, hv4⟩ : ∃ v4, v4 = v3.alloc (.cells #[.int .i64 0, .int .i64 0] 85) := ⟨_, rfl⟩
  have s1 : v1.heap.size = w.heap.size + 1 := by rw [hv1]; simp
  have s2 : v2.heap.size = w.heap.size + 2 := by rw [hv2]; simp [s1]
  have s3 : v3.heap.size = w.heap.size + 3 := by rw [hv3]; simp [s2]
  have s4 : v4.heap.size = w.heap.size + 4 := by rw [hv4]; simp [s3]
  have t4 : Step (fun _ => False) w v4 := by
    rw [hv4, hv3, hv2, hv1]
    exact (((Step.refl.alloc _).alloc _).alloc _).alloc _
  have b1 : Blk v3 w.heap.size 151 #[.func (.func h) #[] caps] := by
    rw [hv3, hv2, hv1]
    exact ((Blk.new w _ _).alloc _).alloc _
  have b2 : Blk v3 (w.heap.size + 1) 85 #[.int .i64 0, .int .i64 0] := by
    have := (Blk.new v1 85 #[.int .i64 0, .int .i64 0]).alloc (.cells #[.slice none 0 0] 147)
    rw [← hv2, ← hv3, s1] at this
    exact this
  have b3 : Blk v3 (w.heap.size + 2) 147 #[.slice none 0 0] := by
    have := Blk.new v2 147 #[.slice none 0 0]
    rw [← hv3, s2] at this
    exact this
  have HO := Lib.hid (out_ok 176 #[.pointer (some ⟨w.heap.size, 0, none⟩), .pointer (some ⟨w.heap.size + 2, 0, none⟩)] v3 (fun k => F k ∨ k = w.heap.size + 2)
    (fun wz => ∃ Dz cz w1, Step F v4 w1 ∧ Q Dz cz v4 w1 ∧ Blk wz (w.heap.size + 2) 147 #[.slice Dz n cz] ∧ Step (fun k => k = w.heap.size + 2) w1 wz)
    (by rw [s3]; intro hk; rcases hk with hk | hk; · have := hF _ hk; omega
        · omega) (fun _ => rfl)
    (by
      rw [← hv4]
      refine (ebclo_ok h caps v4 F Q n hcf w.heap.size (w.heap.size + 2) (HH.out _ t4) (by rw [hv4]; exact b1.alloc _) (by rw [hv4]; exact b3.alloc _) (fun hk => by have := hF _ hk; omega)).mono ?_
      rintro e wz ⟨rfl, Dz, cz, w1, h1, h2, h3, h4⟩
      exact ⟨rfl, (h1.mono fun _ _ hk => .inl hk).trans (h4.mono fun _ _ hk => .inr hk), Dz, cz, w1, h1, h2, h3, h4⟩))
  rw [← hv4, s3] at HO
  have HB2 := Lib.hid b2
  have HE : Hid (v3 = ((w.alloc (.cells #[.func (.func h) #[] caps] 151)).alloc (.cells #[.int .i64 0, .int .i64 0] 85)).alloc (.cells #[.slice none 0 0] 147)) := by rw [Hid, hv3, hv2, hv1]
  have HT5 := Lib.hid t4
  have HF := Lib.hid hF
  have HS5 := Lib.hid s4
  have HV5 := Lib.hid hv4
  clear b1 b2 b3 t4 s1 s2 s3 s4 hv1 hv2 hv3 hv4 HH hF
  go_enter Try.func96, Try.ntmps96
  go_wp2_with fail
  have HO2 := HO.out
  rw [HE.out] at HO2
  refine HO2.mono ?_
  rintro e w6 ⟨rfl, w1, h1, ⟨Dz, cz, wb, g1, g2, g3, g4⟩, h5⟩
  clear HO2 HO
  have HQ := Lib.hid g2
  have HT1 := Lib.hid g1
  have HT2 : Hid (Step (fun k => k = w.heap.size + 2 ∨ k = w.heap.size + 3) wb w6) := (g4.mono fun _ _ hk => .inl hk).trans (h5.mono fun _ _ hk => .inr hk)
  have hns : v4.heap.size ≤ w6.heap.size := Nat.le_trans h1.size h5.size
  have n5 := HS5.out
  have HV6 := Lib.hid ((g3.step h5 (by omega)).alloc (.cells #[.int .i64 0, .int .i64 0] 85))
  have HP6 : Hid (Blk (w6.alloc (.cells #[.int .i64 0, .int .i64 0] 85)) (w.heap.size + 1) 85 #[.int .i64 0, .int .i64 0]) := by
    have h6 := HB2.out.alloc (.cells #[.int .i64 0, .int .i64 0] 85)
    rw [← HV5.out] at h6
    exact ((h6.step h1 (fun hk => by rcases hk with hk | hk; · have := HF.out _ hk; omega
                                     · omega)).step h5 (by omega)).alloc _
  have HN6 := Lib.hid (Blk.new w6 85 #[.int .i64 0, .int .i64 0])
  have HT6 := Lib.hid (HT2.out.alloc (.cells #[.int .i64 0, .int .i64 0] 85))
  obtain ⟨W, hW⟩ : ∃ W, W = w6.alloc (.cells #[.int .i64 0, .int .i64 0] 85) := ⟨_, rfl⟩
  obtain ⟨sN, hsN⟩ : ∃ sN, sN = w6.heap.size := ⟨_, rfl⟩
  rw [← hW] at HV6 HP6 HN6 HT6
  rw [← hsN] at HN6
  have y0 := HN6.out.cell 0
  simp at y0
  rw [hW] at y0
  rw [hsN] at y0
  clear h1 h5 g1 g2 g3 g4 HB2 HE HT2
  go_wp2_with fail
  rw [← hW, ← hsN]
  have hs6 : w.heap.size + 4 ≤ sN := by omega
  clear y0 hW hsN hns n5
  have y0 := HN6.out.cell 0
  have y1 := HN6.out.cell 1
  have x0 := HV6.out.cell 0
  simp at x0 y0 y1
  obtain ⟨F2, hF2⟩ : ∃ F2 : Nat → Prop, F2 = fun q => q = w.heap.size + 1 := ⟨_, rfl⟩
  have hFv : ¬ F2 (w.heap.size + 2) := by rw [hF2]; omega
  have hFs : ¬ F2 sN := by rw [hF2]; omega
  have HF2 := Lib.hid hF2
  clear hF2
  have d0 := cls_cell (F := F2) (w0 := W) x0 hFv
  have e4 := cls_cell (F := F2) (w0 := W) y0 hFs
  have e5 := cls_cell (F := F2) (w0 := W) y1 hFs
  clear x0 y0 y1
  refine Mix.wp_region_mix [3] [3] (Step F2 W) (by kernel_rfl) (by kernel_rfl) Step.refl.drew (fun hcls => ?_)
  refine Mix.wpL_reads 3 (by rfl) ?_
  simp only [List.take_succ_cons, List.drop_succ_cons, List.take_zero, List.drop_zero]
  repeat (go_big_quiet_step (fail))
  refine wpQuiet_nil ?_
  have z0 := HP6.out.frozen 0
  have z1 := HP6.out.frozen 1
  have r0 := HP6.out.cell 0
  have r1 := HP6.out.cell 1
  simp at r0 r1
  refine Mix.wpL_op (by rfl) (fun K hK => ?_)
  go_simp
  obtain ⟨W8, hW8⟩ : ∃ W8, W8 = (W.setCell ⟨w.heap.size + 1, 0, none⟩ (.int .i64 0)).setCell ⟨w.heap.size + 1, 1, none⟩ (.int .i64 0) := ⟨_, rfl⟩
  have HP8 : Hid (Blk W8 (w.heap.size + 1) 85 #[.int .i64 0, .int .i64 0]) := by
    have hq := (HP6.out.set_ 0 (.int .i64 0)).set_ 1 (.int .i64 0)
    rw [← hW8] at hq
    simp at hq
    exact hq
  have HT8 : Hid (Step (fun q => q = w.heap.size + 1) W W8) := by
    rw [hW8]
    exact ((Step.refl (F := fun q => q = w.heap.size + 1)).setCell (p := ⟨w.heap.size + 1, 0, none⟩) (.inl rfl) _).setCell (p := ⟨w.heap.size + 1, 1, none⟩) (.inl rfl) _
  rw [← hW8]
  refine hK _ _ (fun hlt => Mix.cl (by rw [HF2.out]; exact HT8.out.drew)) ?_
  clear hK K z0 z1 r0 r1 hW8
  refine Mix.wpL_end ?_
  go_wp2_with fail
  have p4 := HP8.out.cell 0
  have p5 := HP8.out.cell 1
  simp at p4 p5
  refine bodyPost_ret (v := .tuple #[.slice Dz n cz, .agg #[.int .i64 0, .int .i64 0]]) (by simp [results, Try.results96, go_sem, p4, p5]) rfl ?_
  refine ⟨Dz, cz, rfl, v4, wb, HT5.out, HT1.out, HQ.out, ?_⟩
  have n5 := HS5.out
  refine ((HT6.out.mono fun k _ hk => ?_).trans ((HT8.out.mono fun k _ hk => ?_))).drew
  · exact ⟨by rcases hk with rfl | rfl <;> omega, by rcases hk with rfl | rfl <;> omega⟩
  · exact ⟨by omega, by omega⟩
end

set_option maxRecDepth 100000 in
set_option maxHeartbeats 1600000 in
theorem ebclosure_ok (w : World) (X sb : Nat) (S : Nat → Prop) (D : Option Addr) (c : Nat) (bs : List UInt8) (h : Scn w X S D c bs 0) (l : List El) (n : Nat) (HN : Hid (n = l.length)) (hnb : n ≤ 1000) (hok : ∀ x ∈ l, x.wf ∧ x.err = 0) (hsm : ∀ x ∈ l, x.L.length ≤ 100) (hin : ∀ x ∈ l, x.L.length = x.m ∧ ∀ y ∈ x.L, y < 4294967296)  (hd : bs = putsE (uintF n) l n) (hsb : Blk w sb 79 #[.pointer (some ⟨X, 0, none⟩)]) :
    Calls Try.prog 102 #[.pointer (some ⟨sb, 0, none⟩)] w fun e w' => ∃ D' c', e = .returned (.slice D' n c') ∧ Step (fun i => i = X) w w' ∧ ∃ lb, w'.ownsRow w.heap.size 136 5 (.slice D' n c') n (els lb) ∧ Inn w' w.heap.size l lb := by
  have HG := Lib.hid (egetall_ok w X S D c bs h l n HN hnb hok hsm hin hd)
  have s0 := hsb.cell 0
  simp at s0
  clear hsb h hd
  go_enter Try.func102, Try.ntmps102
  go_wp2_with fail
  refine HG.out.mono ?_
  rintro e w1 ⟨D', c', lb, rfl, hown, hI, ht⟩
  go_wp2_with fail
  go_ret
  exact ⟨D', c', rfl, ht, lb, hown, hI⟩
end Go.Proofs.Ytfemeendkjcffaa
