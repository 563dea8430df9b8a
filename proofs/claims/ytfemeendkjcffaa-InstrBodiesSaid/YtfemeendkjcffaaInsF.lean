/-
  instr: GetBody of a body that may be.
-/
import Derived.Test.YtfemeendkjcffaaInsD
set_option linter.unusedVariables false
set_option linter.unusedSimpArgs false
namespace Go.Proofs.Ytfemeendkjcffaa
open Go.RowKit

/-- An instruction as it is read. -/
def Ig.back (x : Ig) (D : Option Addr) (f : Nat) : Ig := ⟨x.op, x.a, x.b, x.n, f, D, x.L⟩
def BkI (w : World) (B : Nat) (x y : Ig) : Prop := y = x.back y.A y.c ∧ w.ownsRow B 51 1 (.slice y.A x.n y.c) x.n (u32s x.L)
def InnI (w : World) (B : Nat) (l lb : List Ig) : Prop := lb.length = l.length ∧ ∀ (i : Nat) (x y : Ig), l[i]? = some x → lb[i]? = some y → BkI w B x y
theorem InnI.turn {w w' : World} {B : Nat} {l lb : List Ig} (h : InnI w B l lb) (ht : ∀ (D : Option Addr) (n c : Nat) (xs : List Value), w.ownsRow B 51 1 (.slice D n c) n xs → w'.ownsRow B 51 1 (.slice D n c) n xs) : InnI w' B l lb :=
  ⟨h.1, fun i x y hx hy => ⟨(h.2 i x y hx hy).1, ht _ _ _ _ (h.2 i x y hx hy).2⟩⟩
theorem InnI.nil_ (w : World) (B : Nat) : InnI w B [] [] := ⟨rfl, fun i x y hx _ => by cases i <;> cases hx⟩
theorem InnI.snoc {w : World} {B : Nat} {l lb : List Ig} {x y : Ig} (h : InnI w B l lb) (hb : BkI w B x y) : InnI w B (l ++ [x]) (lb ++ [y]) := by
  refine ⟨by simp [h.1], fun i u v hu hv => ?_⟩
  by_cases hi : i < l.length
  · rw [List.getElem?_append_left hi] at hu
    rw [List.getElem?_append_left (by rw [h.1]; exact hi)] at hv
    exact h.2 i u v hu hv
  · rw [List.getElem?_append_right (by omega)] at hu
    rw [List.getElem?_append_right (by rw [h.1]; omega), h.1] at hv
    have hlt := (List.getElem?_eq_some_iff.1 hu).1
    simp at hlt
    have h0 : i - l.length = 0 := by omega
    rw [h0] at hu hv
    simp at hu hv
    subst hu hv
    exact hb
theorem iputs_drop (l : List Ig) (j : Nat) (h : j < l.length) : (l.drop j).flatMap Ig.put = l[j].put ++ (l.drop (j + 1)).flatMap Ig.put := by
  rw [List.drop_eq_getElem_cons h, List.flatMap_cons]
theorem E_ig : ElemTy Try.prog 96 50 4 48 := elem_of Try.underlying96 (z := .agg #[.int .u8 0, .int .u64 0, .int .u64 0, .slice none 0 0]) (by kernel_rfl) rfl (by decide)
def lenOf : Value → Nat
  | .slice _ n _ => n
  | _ => 0
/-- The blocks that stand open, in the program's row (none: the body has ended). -/
def OpenS (l : List Ig) (n j k c3 g B : Nat) (w : World) : Prop := (k = 0 → j = n) ∧ (0 < k → ∃ st : List Nat, k = st.length + 1 ∧ walkF ((opsL l).drop j) j st = n ∧ st.length ≤ j ∧ (∀ x ∈ st, x < 256) ∧ w.ownsRow B 5 1 (.slice (some ⟨g, 0, none⟩) (st.length + 1) c3) (st.length + 1) (u8s (stk st)))

set_option maxRecDepth 100000 in
set_option maxHeartbeats 12800000 in
theorem gbody_ok (w : World) (X : Nat) (S : Nat → Prop) (D : Option Addr) (c : Nat) (bs : List UInt8) (h : Scn w X S D c bs 0) (l : List Ig) (n : Nat) (HN : Hid (n = l.length)) (hnb : n ≤ 1000) (hok : ∀ x ∈ l, x.wf ∧ x.err = 0) (hin : ∀ x ∈ l, x.L.length = x.n ∧ ∀ y ∈ x.L, y < 4294967296) (hs : shpF l = 0) (rest : List UInt8) (hd : bs = l.flatMap Ig.put ++ rest) :
    Calls Try.prog 161 #[.pointer (some ⟨X, 0, none⟩)] w fun e w' => ∃ D' c' lb, e = .returned (.slice D' n c') ∧ w'.ownsRow w.heap.size 50 4 (.slice D' n c') n (igs lb) ∧ InnI w' w.heap.size l lb ∧ Scn w' X S D c bs (l.flatMap Ig.put).length ∧ Step (fun i => i = X) w w' := by
  have hwn : walkF (opsL l) 0 [] = n ∧ ¬ n = 0 := by
    rw [shpF] at hs
    split at hs
    · rename_i h1
      rw [HN.out]
      exact h1
    · cases hs
  obtain ⟨hw0, hn0⟩ := hwn
  have hxl := h.lt
  have hlow := h.low
  have HH := Lib.hid h
  have HOK := Lib.hid hok
  have HIN := Lib.hid hin
  have HD := Lib.hid hd
  have HW0 := Lib.hid hw0
  clear h hd hok hin hs hw0
  have HO0 : Hid ((w.alloc (.cells #[.int .u8 0] 5)).ownsRow w.heap.size 5 1 (.slice (some ⟨w.heap.size, 0, none⟩) 1 1) 1 (u8s (stk []))) :=
    World.ownsRow_lit (base := w.heap.size) (e := 5) (size := 1) w #[Value.int .u8 0] 1 (Nat.le_refl _) (by decide) rfl
  have HT0 := Lib.hid ((Step.refl (F := fun i => i = X)).alloc (w := w) (.cells #[.int .u8 0] 5))
  have HK0 : Hid (Scn (w.alloc (.cells #[.int .u8 0] 5)) X S D c bs ((l.take 0).flatMap Ig.put).length) := HH.out.alloc _
  clear HH
  go_enter Try.func161, Try.ntmps161
  go_wp2_with fail
  go_loopw [3, 4] (fun ov iv wr => ∃ (j k c2 c3 g : Nat) (D2 : Option Addr) (lb : List Ig), j ≤ n ∧ ov = .slice D2 j c2 ∧ iv = .slice (some ⟨g, 0, none⟩) k c3 ∧ Hid (OpenS l n j k c3 g w.heap.size wr) ∧
    Hid (wr.ownsRow w.heap.size 50 4 (.slice D2 j c2) j (igs lb)) ∧ Hid (InnI wr w.heap.size (l.take j) lb) ∧ Hid (Scn wr X S D c bs ((l.take j).flatMap Ig.put).length) ∧ Hid (Step (fun i => i = X) w wr)) (fun ov iv _ => 2 * n + 2 - 2 * lenOf ov - (if lenOf iv = 0 then 1 else 0))
  case atStart => exact ⟨0, 1, 0, 1, w.heap.size, none, [], by omega, rfl, rfl, ⟨(fun h => by cases h), fun _ => ⟨[], rfl, by rw [List.drop_zero, HW0.out], by simp, (fun x hx => by cases hx), HO0.out⟩⟩, World.ownsRow_nil _ _ _ _, InnI.nil_ _ _, HK0, HT0⟩
  case round =>
    obtain ⟨j, k, c2, c3, g, D2, lb, hj, rfl, rfl, HS, HOj, HJj, HKj, HTj⟩ := hrel
    clear HO0 HK0 HT0 HW0
    by_cases hk : k = 0
    · subst hk
      obtain rfl : j = n := HS.out.1 rfl
      have hLt : l.take j = l := by rw [HN.out]; exact List.take_length
      rw [hLt] at HJj HKj
      go_wp2_with fail
      go_ret
      exact ⟨D2, c2, lb, rfl, HOj.out, HJj.out, HKj.out, HTj.out⟩
    · obtain ⟨st, hkl, hwk, hsl, hB, hop⟩ := HS.out.2 (by omega)
      subst hkl
      have HB := Lib.hid hB
      have HP := Lib.hid hop
      have hlt : j < n := by
        refine Nat.lt_of_le_of_ne hj fun h => ?_
        rw [List.drop_eq_nil_of_le (by rw [opsL, List.length_map, h, HN.out]; exact Nat.le_refl _), walkF_nil] at hwk
        omega
      clear hB hop HS hk
      have g1 : (0 : Int) < (st.length : Int) + 1 := by omega
      have hjl : j < l.length := by rw [← HN.out]; exact hlt
      have hx := HOK.out l[j] (List.getElem_mem hjl)
      have hin := HIN.out l[j] (List.getElem_mem hjl)
      have HU : Hid (l.take (j + 1) = l.take j ++ [l[j]]) := List.take_succ_eq_append_getElem hjl
      have hdj : bs.drop ((l.take j).flatMap Ig.put).length = l[j].put ++ ((l.drop (j + 1)).flatMap Ig.put ++ rest) := by
        rw [← List.append_assoc, ← iputs_drop l j hjl, HD.out]
        have e1 : l.flatMap Ig.put = (l.take j).flatMap Ig.put ++ (l.drop j).flatMap Ig.put := by rw [← List.flatMap_append, List.take_append_drop]
        rw [e1, List.append_assoc]
        exact List.drop_left
      have HK2' : Hid (((l.take (j + 1)).flatMap Ig.put).length = ((l.take j).flatMap Ig.put).length + l[j].put.length) := by
        rw [Hid, List.take_succ_eq_append_getElem hjl, List.flatMap_append, List.length_append]
        simp
      rw [ops_drop l j hjl] at hwk
      obtain ⟨x, hxe⟩ : ∃ x, x = l[j] := ⟨_, rfl⟩
      rw [← hxe] at hx hin HU hdj HK2' hwk
      clear hxe
      obtain ⟨kj, hkj⟩ : ∃ kj, kj = ((l.take j).flatMap Ig.put).length := ⟨_, rfl⟩
      rw [← hkj] at HKj hdj HK2'
      clear hkj
      obtain ⟨op, a, b, m, fc, FA, L⟩ := x
      obtain ⟨⟨h1, h2⟩, hz⟩ := hx
      simp only at h1 h2 hin hwk
      obtain ⟨hfm, hLb⟩ := hin
      simp only [Ig.err] at hz
      subst hfm
      have HG := Lib.hid (fun w' (h' : Scn w' X S D c bs kj) => get_all w' X S D c bs kj h' op a b L _ h1 h2 hLb hz hdj)
      have HWk := Lib.hid hwk
      obtain ⟨q, hq⟩ : ∃ q, q = L.length := ⟨_, rfl⟩
      have hDX : blkOf D2 ≠ some X := by rw [← ownBlock_slice D2 j c2]; exact own_tag HOj.out HKj.out.blk (by decide)
      have hDge : ∀ q, blkOf D2 = some q → w.heap.size ≤ q := fun q hq => own_ge HOj.out q (by rw [ownBlock_slice]; exact hq)
      have hDlt : ∀ q, blkOf D2 = some q → q < wr.heap.size := fun q hq => own_lt HOj.out q (by rw [ownBlock_slice]; exact hq)
      have HAt : Hid (Calls Try.prog 52 #[.pointer (some ⟨X, 0, none⟩)] wr fun e w' => e = .returned (.int .i64 (kj : Int)) ∧ w' = wr) := at_walk _ X S D c bs kj HKj.out
      rw [← hq] at HG
      have HQ := Lib.hid hq
      clear hdj hz hLb hwk hq
      simp only [insC] at HG
      go_wp2_with fail
      refine HAt.out.mono ?_
      rintro e wS ⟨rfl, hwS⟩
      subst wS
      go_wp2_with fail
      refine (HG.out _ HKj.out).mono ?_
      rintro e wa ⟨DI, cI, rfl, hta, hin, hsa⟩
      have hin2 := own_base hin (base' := w.heap.size) (fun q hq => Nat.le_trans HTj.out.size (own_ge hin q hq))
      have HJa := Lib.hid (HJj.out.turn (w' := wa) (fun D n c xs h => own_step h hta (fun q hq e => own_tag h HKj.out.blk (by decide) (e ▸ hq))))
      have HNa := Lib.hid hin2
      rw [← HQ.out] at HNa
      have HSa := Lib.hid hsa
      have HPa := Lib.hid (own_step HP.out hta (fun q hq e => own_tag HP.out HKj.out.blk (by decide) (e ▸ hq)))
      have HOa := Lib.hid (own_step HOj.out hta (fun q hq e => hDX (by rw [← ownBlock_slice D2 j c2, hq, e])))
      have HTa := Lib.hid (HTj.out.trans hta)
      have hwa := hta.size
      have hU1 : ((j : Int) < 20000) = True := by simp; omega
      have hU2 : decide ((j : Int) < 20000) = true := by simp; omega
      have HBa := Lib.hid (Blk.new wa 50 #[.int .u8 (op : Int), .int .u64 (a : Int), .int .u64 (b : Int), .slice DI q cI])
      clear hin hin2 hsa hta HP
      go_wp2_with fail
      refine (aunless_ok _ _ _).mono ?_
      rintro e wS ⟨rfl, rfl⟩
      obtain ⟨W1, hW1⟩ : ∃ W1, W1 = wa.alloc (.cells #[.int .u8 (op : Int), .int .u64 (a : Int), .int .u64 (b : Int), .slice DI q cI] 50) := ⟨_, rfl⟩
      rw [← hW1] at HBa ⊢
      have HB1 := HBa
      have HS1 : Hid (Scn W1 X S D c bs (kj + (putL op a b L).length)) := by rw [hW1]; exact HSa.out.alloc _
      have HP1 : Hid (W1.ownsRow w.heap.size 5 1 (.slice (some ⟨g, 0, none⟩) (st.length + 1) c3) (st.length + 1) (u8s (stk st))) := by rw [hW1]; exact HPa.out.alloc _
      have HO1 : Hid (W1.ownsRow w.heap.size 50 4 (.slice D2 j c2) j (igs lb)) := by rw [hW1]; exact HOa.out.alloc _
      have HJ1 : Hid (InnI W1 w.heap.size (l.take j) lb) := by rw [hW1]; exact HJa.out.turn (fun D n c xs h => h.alloc _)
      have HN1 : Hid (W1.ownsRow w.heap.size 51 1 (.slice DI q cI) q (u32s L)) := by rw [hW1]; exact HNa.out.alloc _
      have HT1 : Hid (Step (fun i => i = X) w W1) := by rw [hW1]; exact HTa.out.alloc _
      obtain ⟨I, hI⟩ : ∃ I, I = wa.heap.size := ⟨_, rfl⟩
      rw [← hI] at HB1 ⊢
      have hIr : wr.heap.size ≤ I := by omega
      clear hW1 hI hwa HBa HSa HPa HOa HJa HNa HTa HG HAt
      have i0 := HB1.out.cell 0
      have i1 := HB1.out.cell 1
      have i2 := HB1.out.cell 2
      have i3 := HB1.out.cell 3
      simp at i0 i1 i2 i3
      have HB2 := Lib.hid (HB1.out.alloc (.cells #[.int .u8 (op : Int), .int .u64 (a : Int), .int .u64 (b : Int), .slice DI q cI] 50))
      have HS2 := Lib.hid (HS1.out.alloc (.cells #[.int .u8 (op : Int), .int .u64 (a : Int), .int .u64 (b : Int), .slice DI q cI] 50))
      have HP2 := Lib.hid (HP1.out.alloc (.cells #[.int .u8 (op : Int), .int .u64 (a : Int), .int .u64 (b : Int), .slice DI q cI] 50))
      have HO2 := Lib.hid (HO1.out.alloc (.cells #[.int .u8 (op : Int), .int .u64 (a : Int), .int .u64 (b : Int), .slice DI q cI] 50))
      have HJ2 : Hid (InnI (W1.alloc (.cells #[.int .u8 (op : Int), .int .u64 (a : Int), .int .u64 (b : Int), .slice DI q cI] 50)) w.heap.size (l.take j) lb) := HJ1.out.turn (fun D n c xs h => h.alloc _)
      have HN2 := Lib.hid (HN1.out.alloc (.cells #[.int .u8 (op : Int), .int .u64 (a : Int), .int .u64 (b : Int), .slice DI q cI] 50))
      have HT2 := Lib.hid (HT1.out.alloc (.cells #[.int .u8 (op : Int), .int .u64 (a : Int), .int .u64 (b : Int), .slice DI q cI] 50))
      have hrn := reads_new W1 #[Value.int .u8 (op : Int), .int .u64 (a : Int), .int .u64 (b : Int), .slice DI q cI] 50 4 1 rfl
      have hone : ∀ u ∈ #[Value.int .u8 (op : Int), .int .u64 (a : Int), .int .u64 (b : Int), .slice DI q cI].toList, u.oneCell' = true := by simp [Value.oneCell']
      have hm : j + 1 ≤ maxLen := by unfold maxLen; omega
      have hsz := HT2.out.size
      clear HS1 HP1 HO1 HJ1 HN1 HT1
      have hDI : blkOf D2 ≠ some I := fun e => by have := hDlt I e; omega
      go_wp2_with (at_builtin; refine wpList_append_src _ rfl _ _ (by rfl) E_ig (by rfl) HO2.out (by rfl) hrn hone hm (by omega) hsz ?_; intro D3 c3' w3 hown hgrow hat; have HG3 := Lib.hid hgrow; have HB3 := Lib.hid (HB2.out.grown hgrow hDI); have k0 := HB3.out.cell 0; simp at k0; clear hat hgrow)
      have hkeep : ∀ (e : TypeId) (D : Option Addr) (n c : Nat) (xs : List Value), e ≠ 50 → (W1.alloc (.cells #[.int .u8 (op : Int), .int .u64 (a : Int), .int .u64 (b : Int), .slice DI q cI] 50)).ownsRow w.heap.size e 1 (.slice D n c) n xs → w3.ownsRow w.heap.size e 1 (.slice D n c) n xs := fun e D n c xs hne h => own_apart h HG3.out (fun q hq e => own_tag2 h HO2.out hne q hq (by rw [ownBlock_slice]; exact e))
      have HJ3 := Lib.hid (HJ2.out.turn (hkeep _ · · · · (by decide)))
      have HN3 := hkeep _ _ _ _ _ (by decide) HN2.out
      have HP3 := Lib.hid (hkeep _ _ _ _ _ (by decide) HP2.out)
      have HK3 := Lib.hid (HS2.out.step (F := fun q => blkOf D2 = some q) (Step.refl.grown HG3.out (fun q hq => .inl hq)) hDX (fun q hq hd => by have := hlow q hq; have := hDge q hd; omega))
      have HT3 := Lib.hid (HT2.out.grown HG3.out (fun q hq => .inr (hDge q hq)))
      rw [show kj + (putL op a b L).length = ((l.take (j + 1)).flatMap Ig.put).length from HK2'.out.symm] at HK3
      have hus : igs lb ++ #[Value.int .u8 (op : Int), .int .u64 (a : Int), .int .u64 (b : Int), .slice DI q cI].toList = igs (lb ++ [Ig.back ⟨op, a, b, q, fc, FA, L⟩ DI cI]) := by rw [igs_append]; rfl
      rw [hus] at hown
      have HO3 := Lib.hid hown
      have HJ4 : Hid (InnI w3 w.heap.size (l.take (j + 1)) (lb ++ [Ig.back ⟨op, a, b, q, fc, FA, L⟩ DI cI])) := by rw [HU.out, ← HQ.out]; exact HJ3.out.snoc ⟨rfl, HN3⟩
      obtain ⟨lc, hlc⟩ : ∃ lc, lc = lb ++ [Ig.back ⟨op, a, b, q, fc, FA, L⟩ DI cI] := ⟨_, rfl⟩
      rw [← hlc] at HO3 HJ4
      have HOp : Hid (∀ w, Calls Try.prog 28 #[.int .u8 (op : Int)] w fun e w' => e = .returned (.bool (decide (2 ≤ op) && decide (op ≤ 4))) ∧ w' = w) := fun w => opens_walk w op h1
      have HWk := Lib.hid HWk.out
      clear hlc hus hown HJ3 HN3 HN2 HP2 HS2 HT2 HJ2 HO2 HG3 HB1 HB2 hrn hone hm hsz hkeep HU HK2' i0 i1 i2 i3
      have hX3 : ∀ q, q = g → q ≠ X := fun q hq e => own_tag HP3.out HK3.out.blk (by decide) (by rw [ownBlock_slice, ← e, hq]; rfl)
      have hgw : w.heap.size ≤ g := own_ge HP3.out g rfl
      have hgl : g < w3.heap.size := own_lt HP3.out g rfl
      have hgO : ∀ q, Value.ownBlock (.slice D3 (j + 1) c3') = some q → q ≠ g := fun q hq e => own_tag2 HP3.out HO3.out (by decide) g rfl (e ▸ hq)
      by_cases h24 : 2 ≤ op ∧ op ≤ 4
      · have hd : (decide (2 ≤ op) && decide (op ≤ 4)) = true := by simp [h24]
        rw [hd] at HOp
        have HI2 : walkF ((opsL l).drop (j + 1)) (j + 1) (op :: st) = n := by rw [← HWk.out, walkF_open h24]
        have hB2 : ∀ x ∈ op :: st, x < 256 := fun x hx' => by
          rcases List.mem_cons.1 hx' with rfl | hx'
          · exact h1
          · exact HB.out x hx'
        have HI2 := Lib.hid HI2
        have HB2 := Lib.hid hB2
        have HBy := Lib.hid (byte_cell op h1)
        have HP4 := Lib.hid (HP3.out.alloc (.cells #[.int .u8 (op : Int)] 5))
        have HO4 := Lib.hid (HO3.out.alloc (.cells #[.int .u8 (op : Int)] 5))
        have HK4 := Lib.hid (HK3.out.alloc (.cells #[.int .u8 (op : Int)] 5))
        have HT4 := Lib.hid (HT3.out.alloc (.cells #[.int .u8 (op : Int)] 5))
        have HJ5 : Hid (InnI (w3.alloc (.cells #[.int .u8 (op : Int)] 5)) w.heap.size (l.take (j + 1)) lc) := HJ4.out.turn (fun D n c xs h => h.alloc _)
        have hrn := reads_new w3 #[Value.int .u8 (op : Int)] 5 1 1 rfl
        have hone : ∀ u ∈ #[Value.int .u8 (op : Int)].toList, u.oneCell' = true := by simp [Value.oneCell']
        have hm : st.length + 1 + 1 ≤ maxLen := by unfold maxLen; omega
        have hsz := HT4.out.size
        clear hd hB2 HWk HT3 HK3 HO3 HJ4
        refine (HOp.out _).mono ?_
        rintro e wS ⟨rfl, hwS⟩
        subst wS
        go_wp2_with (at_builtin; refine wpList_append_src _ rfl _ _ (by rfl) E_u8 (by rfl) HP4.out (by rfl) hrn hone hm (by omega) hsz ?_; intro D9 c9 w9 hown hgrow hat)
        have hcs : u8s (stk st) ++ #[Value.int .u8 (op : Int)].toList = u8s (stk (op :: st)) := by rw [stk_push, u8s_append, HBy.out]
        rw [hcs] at hown
        obtain ⟨g9, hg9⟩ : ∃ g9, D9 = some ⟨g9, 0, none⟩ := by
          obtain ⟨g9, cap, hv, _⟩ := hown.form (by omega)
          injection hv with hv
          exact ⟨g9, hv⟩
        subst hg9
        have HO9 := own_apart HO4.out hgrow (fun q hq e => hgO q hq (by injection e with e; exact e.symm))
        have HJ9 := HJ5.out.turn (fun D n c xs h => own_apart h hgrow (fun q hq e => own_tag2 h HP4.out (by decide) q hq (by rw [ownBlock_slice]; exact e)))
        have HK9 := HK4.out.step (F := fun q => q = g) (Step.refl.grown hgrow (fun q hq => .inl (by injection hq with hq; exact hq.symm))) (fun e => hX3 X e rfl) (fun q hq hd => by have := hlow q hq; omega)
        have HT9 := HT4.out.grown hgrow (fun q hq => .inr (by injection hq with hq; rw [← hq]; exact hgw))
        go_roundw
        case rel => exact ⟨j + 1, st.length + 1 + 1, c3', c9, g9, D3, lc, by omega, rfl, rfl, ⟨(fun h => absurd h (by omega)), fun _ => ⟨op :: st, rfl, HI2.out, by simp; omega, HB2.out, hown⟩⟩, HO9, HJ9, HK9, HT9⟩
        case measure => simp [lenOf]; omega
      · have hd : (decide (2 ≤ op) && decide (op ≤ 4)) = false := by
          cases hq : (decide (2 ≤ op) && decide (op ≤ 4)) with
          | false => rfl
          | true =>
            simp only [Bool.and_eq_true, decide_eq_true_eq] at hq
            exact absurd hq h24
        rw [hd] at HOp
        clear hd
        refine (HOp.out _).mono ?_
        rintro e wS ⟨rfl, hwS⟩
        subst wS
        by_cases h11 : op = 11
        · subst h11
          cases st with
          | nil =>
            have hjn : Hid (j + 1 = n) := by rw [Hid, ← HWk.out, walkF_last]
            clear HWk
            go_wp2_with fail
            go_roundw
            case rel => exact ⟨j + 1, 0, c3', c3, g, D3, lc, by omega, rfl, rfl, ⟨(fun _ => hjn.out), fun h => absurd h (by omega)⟩, HO3.out, HJ4.out, HK3.out, HT3.out⟩
            case measure => simp [lenOf]; omega
          | cons y st =>
            have HI2 : walkF ((opsL l).drop (j + 1)) (j + 1) st = n := by rw [← HWk.out, walkF_end]
            have hlc : (y :: st).length = st.length + 1 := rfl
            have hcap := own_cap HP3.out
            have hO2 := own_take HP3.out (k := st.length + 1) (by rw [hlc]; omega)
            rw [Nat.mul_one, stk_pop] at hO2
            rw [hlc] at hsl hcap ⊢
            have hwl := IntWalk.i64_in ((st.length : Int) + 1) (by omega)
            have sh := slice_hn E_u8 (some ⟨g, 0, none⟩) (st.length + 1 + 1) c3 .i64 ((st.length : Int) + 1) (st.length + 1) (by omega) (by omega)
            have hB2 : ∀ x ∈ st, x < 256 := fun x hx' => HB.out x (List.mem_cons_of_mem _ hx')
            have HI2 := Lib.hid HI2
            have HB2 := Lib.hid hB2
            have HP9 := Lib.hid hO2
            clear hB2 HWk hO2 hcap hlc
            go_wp2_with fail
            go_roundw
            case rel => exact ⟨j + 1, st.length + 1, c3', c3, g, D3, lc, by omega, rfl, rfl, ⟨(fun h => absurd h (by omega)), fun _ => ⟨st, rfl, HI2.out, by omega, HB2.out, HP9.out⟩⟩, HO3.out, HJ4.out, HK3.out, HT3.out⟩
            case measure => simp [lenOf]; omega
        by_cases h5 : op = 5
        · subst h5
          have hst : st.head? = some 4 := by
            refine Classical.byContradiction fun h => ?_
            have h9 := HWk.out
            rw [walkF_bad h] at h9
            omega
          cases st with
          | nil => cases hst
          | cons y st =>
            simp only [List.head?_cons, Option.some.injEq] at hst
            subst hst
            have hlc : (4 :: st).length = st.length + 1 := rfl
            have hcc : w3.cell? ⟨g, st.length + 1, none⟩ = some (.int .u8 4) := by
              obtain ⟨ad, u, e1, _, hgl, hu, hc⟩ := (Reads.of_own HP3.out).at_ (k := st.length + 1) (by rw [hlc]; omega)
              injection e1 with e1
              subst e1
              rw [stk_top 4 st (by decide)] at hu
              injection hu with hu
              subst hu
              rw [Addr.add_lit, Nat.zero_add] at hc
              exact hc
            have hfz : w3.frozen? ⟨g, st.length + 1, none⟩ = false := by
              rcases HP3.out.2 with ⟨hv, _⟩ | ⟨g', cap, cur, hv, _, hh, _⟩
              · cases hv
              · injection hv with e1
                injection e1 with e1
                injection e1 with e1
                subst e1
                exact Blk.frozen (cs := cur) (t := 5) hh _
            have HI2 : walkF ((opsL l).drop (j + 1)) (j + 1) (5 :: st) = n := by rw [← HWk.out, walkF_else]
            have HP8 := HP3.out
            rw [hlc] at HP8 hsl ⊢
            have HP9 := own_setAt (j := st.length + 1) (u := .int .u8 5) HP8 (by rw [u8s, List.length_map, stk_len]; simp)
            rw [stk_set] at HP9
            have hB2 : ∀ x ∈ 5 :: st, x < 256 := fun x hx' => by
              rcases List.mem_cons.1 hx' with rfl | hx'
              · decide
              · exact HB.out x (List.mem_cons_of_mem _ hx')
            have HI2 := Lib.hid HI2
            have HB2 := Lib.hid hB2
            have HP9 := Lib.hid HP9
            have HO9 := Lib.hid (own_set HO3.out (p := ⟨g, st.length + 1, none⟩) (fun e => hgO _ e rfl) (.int .u8 5))
            have HJ9 : Hid (InnI (w3.setCell ⟨g, st.length + 1, none⟩ (.int .u8 5)) w.heap.size (l.take (j + 1)) lc) := HJ4.out.turn (fun D n c xs h => own_set h (p := ⟨g, st.length + 1, none⟩) (fun e => own_tag2 h HP3.out (by decide) g e rfl) _)
            have HK9 := Lib.hid (HK3.out.step (F := fun q => q = g) ((Step.refl (F := fun q => q = g)).setCell (p := ⟨g, st.length + 1, none⟩) (.inl rfl) (.int .u8 5)) (fun e => hX3 X e rfl) (fun q hq hd => by have := hlow q hq; omega))
            have HT9 := Lib.hid (HT3.out.setCell (p := ⟨g, st.length + 1, none⟩) (.inr hgw) (.int .u8 5))
            have hwl := IntWalk.i64_in ((st.length : Int) + 1) (by omega)
            have q0 : (0 : Int) ≤ (st.length : Int) + 1 := by omega
            have q1 : (st.length : Int) + 1 < (st.length : Int) + 1 + 1 := by omega
            clear hB2 HWk hlc HP8 HP3 HO3 HJ4 HK3 HT3
            go_wp2_with fail
            refine (aunless_ok _ _ _).mono ?_
            rintro e wS ⟨rfl, hwS⟩
            subst wS
            go_wp2_with fail
            go_roundw
            case rel => exact ⟨j + 1, st.length + 1 + 1, c3', c3, g, D3, lc, by omega, rfl, rfl, ⟨(fun h => absurd h (by omega)), fun _ => ⟨5 :: st, rfl, HI2.out, by simp; omega, HB2.out, HP9.out⟩⟩, HO9.out, HJ9.out, HK9.out, HT9.out⟩
            case measure => simp [lenOf]; omega
        · have HI2 : walkF ((opsL l).drop (j + 1)) (j + 1) st = n := by rw [← HWk.out, walkF_plain h24 h5 h11]
          have n5 : ((op : Int) == 5) = false := by simp; omega
          have n11 : ((op : Int) == 11) = false := by simp; omega
          have m5 : ¬ (op : Int) = 5 := by omega
          have m11 : ¬ (op : Int) = 11 := by omega
          have HI2 := Lib.hid HI2
          clear HWk h24 h5 h11
          go_wp2_with fail
          go_roundw
          case rel => exact ⟨j + 1, st.length + 1, c3', c3, g, D3, lc, by omega, rfl, rfl, ⟨(fun h => absurd h (by omega)), fun _ => ⟨st, rfl, HI2.out, by omega, HB.out, HP3.out⟩⟩, HO3.out, HJ4.out, HK3.out, HT3.out⟩
          case measure => simp [lenOf]; omega
end Go.Proofs.Ytfemeendkjcffaa
