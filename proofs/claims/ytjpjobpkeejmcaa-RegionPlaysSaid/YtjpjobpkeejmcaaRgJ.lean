/-
  region: slices.DeleteFunc, Give.
-/
import Derived.Test.YtjpjobpkeejmcaaRgI
set_option linter.unusedVariables false
set_option linter.unusedSimpArgs false
namespace Go.Proofs.Ytjpjobpkeejmcaa
open Go.RowKit

/-- What an owner has not; what he has. -/
def less (ow : Int) (l : List Pc) : List Pc := l.filter fun p => !(p.ow == ow)
def mine (ow : Int) (l : List Pc) : List Pc := l.filter fun p => p.ow == ow
theorem less_len (ow : Int) (l : List Pc) : (less ow l).length ≤ l.length := List.length_filter_le _ _
theorem less_take (ow : Int) (l : List Pc) (j : Nat) (h : j < l.length) : less ow (l.take (j + 1)) = less ow (l.take j) ++ (if l[j].ow = ow then [] else [l[j]]) := by
  rw [less, List.take_succ_eq_append_getElem h, List.filter_append, List.filter_cons, List.filter_nil]
  by_cases hp : l[j].ow = ow
  · simp [hp, less]
  · simp [hp, less]
theorem mine_take (ow : Int) (l : List Pc) (j : Nat) (h : j < l.length) : sumP (mine ow (l.take (j + 1))) = sumP (mine ow (l.take j)) + (if l[j].ow = ow then l[j].len else 0) := by
  rw [mine, List.take_succ_eq_append_getElem h, List.filter_append, List.filter_cons, List.filter_nil, sumP_append]
  by_cases hp : l[j].ow = ow
  · simp [hp, mine, sumP]
  · simp [hp, mine, sumP]
theorem less_none (ow : Int) (l : List Pc) (h : idxO ow l = l.length) : less ow l = l ∧ mine ow l = [] := by
  have h1 : ∀ p ∈ l, ¬ p.ow = ow := fun p hp => by
    obtain ⟨k, hk, rfl⟩ := List.getElem_of_mem hp
    exact idxO_lt ow l k hk (by omega)
  refine ⟨List.filter_eq_self.2 fun p hp => by simpa using h1 p hp, List.filter_eq_nil_iff.2 fun p hp => by simpa using h1 p hp⟩
theorem less_first (ow : Int) (l : List Pc) (h : idxO ow l < l.length) : less ow (l.take (idxO ow l + 1)) = l.take (idxO ow l) := by
  rw [less_take ow l _ h, if_pos (idxO_at ow l h), List.append_nil]
  refine List.filter_eq_self.2 fun p hp => ?_
  obtain ⟨k, hk, rfl⟩ := List.getElem_of_mem hp
  rw [List.getElem_take]
  rw [List.length_take] at hk
  simpa using idxO_lt ow l k (by omega) (by omega)

theorem wpList_clear_run {P : Program} (w : World) {ops : Array Oper} {rest : List Oper} {o : Oper} {a : Act} {Q : Exit → Act → World → Prop} (hgd : o.guard = none) (d : Operand) (t : TypeId)
    (ho : o.op = .call { callee := .builtin .clear, args := #[d], argTypes := #[t] }) (v : Value) (hd : a.eval d = v) {v' : Value} {w' : World}
    (hr : (Builtin.clear_ #[t] o.type #[v]).run P w = .ok v' w') (h : wpList P ops Q rest (a.put o.dst v') w') : wpList P ops Q (o :: rest) a w :=
  wpList_plain hgd fun _ hK => by
    unfold Oper.wp execOp
    simp only [ho, resolve, invoke, builtin, Sem.run_bind, Sem.run_pure, Result.andThen_ok, List.map_toArray, List.map_cons, List.map_nil, hd, hr]
    exact hK _ _ h

set_option maxRecDepth 100000 in
set_option maxHeartbeats 6400000 in
theorem sdel_walk (w : World) (A : Option Addr) (n c B : Nat) (ps : List Pc) (O N : Nat) (ow : Int) (hN : n = ps.length) (h : w.ownsRow B 47 3 (.slice A n c) n (pcs ps)) (hO : Blk w O 3 #[.int .i64 ow]) (hNb : Blk w N 3 #[.int .i64 0]) (hNO : O ≠ N) (hn : n ≤ 1000000) (hl : ∀ p ∈ ps, p.len ≤ 1073741824) :
    Calls Try.prog 26 #[.slice A n c, gclo O N] w fun e w' => e = .returned (.slice A (less ow ps).length c) ∧ w'.ownsRow B 47 3 (.slice A (less ow ps).length c) (less ow ps).length (pcs (less ow ps)) ∧
      Blk w' N 3 #[.int .i64 (sumP (mine ow ps) : Int)] ∧ Step (fun k => k = N ∨ blkOf A = some k) w w' := by
  have hAN : blkOf A ≠ some N := by rw [← ownBlock_slice A n c]; exact own_tag h hNb (by decide)
  have hAO : blkOf A ≠ some O := by rw [← ownBlock_slice A n c]; exact own_tag h hO (by decide)
  have HIx := Lib.hid (sindex_walk w A n c ps _ O N ow hN (Reads.of_own h) hO hNb hNO (fun k hk e => hAN (by rw [ownBlock_slice] at hk; rw [hk, e])) hn hl)
  have hle := idxO_le ow ps
  have hcap := own_cap h
  have HO := Lib.hid hO
  have HH := Lib.hid h
  have HL := Lib.hid hl
  by_cases hi : idxO ow ps = ps.length
  · obtain ⟨e1, e2⟩ := less_none ow ps hi
    rw [e1, e2, ← hN]
    have e3 : ((sumP [] : Nat) : Int) = 0 := rfl
    rw [e3]
    have hx : ¬ idxO ow ps < n := by omega
    clear h hO hNb hl hle e1 e2 e3 hi hN
    rw [gclo] at HIx ⊢
    go_enter Try.func26, Try.ntmps26
    go_wp2_with fail
    refine HIx.out.mono ?_
    rintro e w5 ⟨hS5, ⟨h1, _⟩ | ⟨_, rfl, hb⟩⟩
    · exact absurd h1 hx
    go_wp2_with fail
    go_ret
    exact ⟨rfl, own_step HH.out hS5 (fun k hk e => hAN (by rw [ownBlock_slice] at hk; rw [hk, e])), hb, hS5.mono fun _ _ hk => .inl hk⟩
  · have hlt0 : idxO ow ps < ps.length := by omega
    have HF := Lib.hid (less_first ow ps hlt0)
    obtain ⟨g, cur0, rfl, _, _, _, _, _, _⟩ := own_blk h (by omega)
    have hgN : g ≠ N := fun e => hAN (by rw [e]; rfl)
    have hgO : g ≠ O := fun e => hAO (by rw [e]; rfl)
    obtain ⟨i0, hi0⟩ : ∃ i0, i0 = idxO ow ps := ⟨_, rfl⟩
    have HI0 := Lib.hid hi0
    rw [← hi0] at hlt0 HIx HF
    have hw0 := IntWalk.i64_in ((i0 : Int) + 1) (by omega)
    have hne1 : ((i0 : Int) == -1) = false := beq_eq_false_iff_ne.2 (by omega)
    have HN := Lib.hid hN
    have hlt1 : i0 < n := by rw [hN]; exact hlt0
    have HLL : Hid (∀ j, sumP (mine ow (ps.take j)) ≤ 1073741824000000) := fun j => by
      have h1 := sumP_le (mine ow (ps.take j)) 1073741824 (fun p hp => hl p (List.mem_of_mem_take (List.mem_filter.1 hp).1))
      have h2 : (mine ow (ps.take j)).length ≤ (ps.take j).length := List.length_filter_le _ _
      have h3 : (ps.take j).length ≤ 1000000 := by rw [List.length_take]; omega
      omega
    have HFin : Hid (n = ps.length) := hN
    clear h hO hNb hl hle hi hi0 hN
    rw [gclo] at HIx ⊢
    go_enter Try.func26, Try.ntmps26
    go_wp2_with fail
    refine HIx.out.mono ?_
    rintro e w5 ⟨hS5, ⟨_, rfl, hb⟩ | ⟨h1, _, _⟩⟩
    rotate_left
    · omega
    have HS5 : Hid (Step (fun k => k = N ∨ blkOf (some (⟨g, 0, none⟩ : Addr)) = some k) w w5) := hS5.mono fun _ _ hk => .inl hk
    have HB5 := Lib.hid hb
    have HO5 := Lib.hid (own_step HH.out hS5 (fun k hk e => hAN (by rw [ownBlock_slice] at hk; rw [hk, e])))
    clear hS5 hb
    go_wp2_with fail
    go_loopw [5, 6] (fun iv jv wr => ∃ (i j : Nat) (R : List Pc), i < j ∧ j ≤ n ∧ iv = .int .i64 (i : Int) ∧ jv = .int .i64 (j : Int) ∧ Hid (R.length = n ∧ R.take i = less ow (ps.take j) ∧ R.drop j = ps.drop j) ∧ Hid (wr.ownsRow B 47 3 (.slice (some ⟨g, 0, none⟩) n c) n (pcs R)) ∧
      Hid (Blk wr N 3 #[.int .i64 (sumP (mine ow (ps.take j)) : Int)]) ∧ Hid (Step (fun k => k = N ∨ blkOf (some (⟨g, 0, none⟩ : Addr)) = some k) w wr)) (fun _ jv _ => n + 1 - (intOf jv).toNat)
    case atStart => exact ⟨i0, i0 + 1, ps, by omega, by omega, rfl, by rw [Int.natCast_add]; rfl, ⟨HFin.out.symm, HF.out.symm, rfl⟩, HO5, HB5, HS5⟩
    case round =>
      obtain ⟨i, j, R, hij, hj, rfl, rfl, HR, HOw, HB, HS⟩ := hrel
      clear HO5 HB5 HS5 HIx
      by_cases hlt : j < n
      · have g1 : (j : Int) < (n : Int) := by omega
        have ij0 : (0 : Int) ≤ (j : Int) := by omega
        have hw1 := IntWalk.i64_in ((j : Int) + 1) (by omega)
        have hw2 := IntWalk.i64_in ((i : Int) + 1) (by omega)
        have hjl : j < ps.length := by rw [← HFin.out]; exact hlt
        have hjr : j < R.length := by rw [HR.out.1]; exact hlt
        obtain ⟨bk, off, e0, _, hbl, hc⟩ := reads_row Pc.cells 3 (by decide) Pc.three (Reads.of_own HOw.out) (k := j) hjr
        injection e0 with e0
        injection e0 with e1 e2
        subst e1 e2
        have hpl := HL.out ps[j] (List.getElem_mem hjl)
        have hRj : R[j] = ps[j] := by
          have h5 := congrArg List.head? HR.out.2.2
          rw [List.head?_drop, List.head?_drop, List.getElem?_eq_getElem hjr, List.getElem?_eq_getElem hjl] at h5
          injection h5
        rw [hRj] at hc
        have HT1 := Lib.hid (less_take ow ps j hjl)
        have HT2 := Lib.hid (mine_take ow ps j hjl)
        have HD2 : Hid (R.drop (j + 1) = ps.drop (j + 1)) := by
          have h5 := congrArg (List.drop 1) HR.out.2.2
          rw [List.drop_drop, List.drop_drop] at h5
          exact h5
        have hacc := HLL.out j
        clear hRj
        have HOj := Lib.hid (HO.out.step HS.out (fun hk => by rcases hk with hk | hk; exact hNO hk; injection hk with hk; exact hgO hk))
        generalize ps[j] = p at hc hpl HT1 HT2
        obtain ⟨a, l, o⟩ := p
        have c0 := hc 0 _ rfl
        have c1 := hc 1 _ rfl
        have c2 := hc 2 _ rfl
        simp only [Nat.add_zero, Nat.zero_add] at c0 c1 c2 hpl HT1 HT2
        generalize sumP (mine ow (ps.take j)) = acc at HB HT2 hacc
        have HC : Hid (∀ w', Blk w' O 3 #[.int .i64 ow] → Blk w' N 3 #[.int .i64 (acc : Int)] → Calls Try.prog 27 #[.agg #[.int .i64 (a : Int), .int .i64 (l : Int), .int .i64 o], .pointer (some ⟨O, 0, none⟩), .pointer (some ⟨N, 0, none⟩)] w' fun e w'' => e = .returned (.bool (o == ow)) ∧ Blk w'' N 3 #[.int .i64 ((acc + if o = ow then l else 0 : Nat) : Int)] ∧ Step (fun k => k = N) w' w'') := fun w' h1 h2 => gclo_walk w' O N ow acc a l o h1 h2 hNO (by omega)
        rw [← HT2.out] at HC
        clear hc
        have HBp := Lib.hid (Blk.new wr 47 #[.int .i64 (a : Int), .int .i64 (l : Int), .int .i64 o])
        have HOa := Lib.hid (HOj.out.alloc (.cells #[.int .i64 (a : Int), .int .i64 (l : Int), .int .i64 o] 47))
        have HBa := Lib.hid (HB.out.alloc (.cells #[.int .i64 (a : Int), .int .i64 (l : Int), .int .i64 o] 47))
        have HRa := Lib.hid (HOw.out.alloc (.cells #[.int .i64 (a : Int), .int .i64 (l : Int), .int .i64 o] 47))
        have HSa := Lib.hid (HS.out.alloc (.cells #[.int .i64 (a : Int), .int .i64 (l : Int), .int .i64 o] 47))
        have hNl := HB.out.lt
        by_cases ho : o = ow
        · subst ho
          have hob : (o == o) = true := beq_self_eq_true o
          rw [hob] at HC
          rw [if_pos rfl, List.append_nil] at HT1
          go_wp2_with fail
          refine (HC.out _ HOa.out HBa.out).mono ?_
          rintro e we ⟨rfl, hbe, hse⟩
          have HSe : Hid (Step (fun k => k = N ∨ blkOf (some (⟨g, 0, none⟩ : Addr)) = some k) w we) := HSa.out.trans (hse.mono fun _ _ hk => .inl hk)
          have HRe := Lib.hid (own_step HRa.out hse (fun k hk e => hAN (by rw [ownBlock_slice] at hk; rw [hk, e])))
          have HRR : Hid (R.length = n ∧ R.take i = less o (ps.take (j + 1)) ∧ R.drop (j + 1) = ps.drop (j + 1)) := ⟨HR.out.1, by rw [HT1.out]; exact HR.out.2.1, HD2.out⟩
          go_wp2_with fail
          go_roundw
          case rel => exact ⟨i, j + 1, R, by omega, by omega, rfl, by rw [Int.natCast_add]; rfl, HRR, HRe, hbe, HSe⟩
          case measure => simp [intOf]; omega
        · have hob : (o == ow) = false := by simpa using ho
          rw [hob] at HC
          rw [if_neg ho] at HT1
          obtain ⟨M, hM⟩ : ∃ M, M = wr.heap.size := ⟨_, rfl⟩
          have hgl : g < wr.heap.size := hbl
          have hMN : M ≠ N := by omega
          have hMg : M ≠ g := by omega
          rw [← hM] at HBp
          have HMx := Lib.hid hM
          clear hM
          go_wp2_with fail
          refine (HC.out _ HOa.out HBa.out).mono ?_
          rintro e we ⟨rfl, hbe, hse⟩
          have HSe : Hid (Step (fun k => k = N ∨ blkOf (some (⟨g, 0, none⟩ : Addr)) = some k) w we) := HSa.out.trans (hse.mono fun _ _ hk => .inl hk)
          have HRe := Lib.hid (own_step HRa.out hse (fun k hk e => hAN (by rw [ownBlock_slice] at hk; rw [hk, e])))
          have HBe := Lib.hid (HBp.out.step hse hMN)
          have HNe := Lib.hid hbe
          rw [← HMx.out]
          clear hse hbe
          have y0 := HBe.out.cell 0
          have y1 := HBe.out.cell 1
          have y2 := HBe.out.cell 2
          simp at y0 y1 y2
          have hir : i < R.length := by rw [HR.out.1]; omega
          obtain ⟨g', e0', _, _, hcell, hfz⟩ := own_row HRe.out (by omega)
          injection e0' with e0'
          injection e0' with e0'
          subst e0'
          have f0 := hfz (i * 3)
          have f1 := hfz (i * 3 + 1)
          have f2 := hfz (i * 3 + 2)
          have z0 := hcell (i * 3) _ (List.getElem?_eq_getElem (by rw [pcs_len]; omega))
          have z1 := hcell (i * 3 + 1) _ (List.getElem?_eq_getElem (by rw [pcs_len]; omega))
          have z2 := hcell (i * 3 + 2) _ (List.getElem?_eq_getElem (by rw [pcs_len]; omega))
          generalize (pcs R)[i * 3]'(by rw [pcs_len]; omega) = q0 at z0
          generalize (pcs R)[i * 3 + 1]'(by rw [pcs_len]; omega) = q1 at z1
          generalize (pcs R)[i * 3 + 2]'(by rw [pcs_len]; omega) = q2 at z2
          have ii0 : (0 : Int) ≤ (i : Int) := by omega
          have gi : (i : Int) < (n : Int) := by omega
          have HRs := Lib.hid (own_setPc HRe.out hir ⟨a, l, o⟩)
          have HNs := Lib.hid (((HNe.out.far (p := ⟨g, i * 3, none⟩) (Ne.symm hgN) (.int .i64 (a : Int))).far (p := ⟨g, i * 3 + 1, none⟩) (Ne.symm hgN) (.int .i64 (l : Int))).far (p := ⟨g, i * 3 + 2, none⟩) (Ne.symm hgN) (.int .i64 o))
          have HSs := Lib.hid (((HSe.out.setCell (p := ⟨g, i * 3, none⟩) (.inl (.inr rfl)) (.int .i64 (a : Int))).setCell (p := ⟨g, i * 3 + 1, none⟩) (.inl (.inr rfl)) (.int .i64 (l : Int))).setCell (p := ⟨g, i * 3 + 2, none⟩) (.inl (.inr rfl)) (.int .i64 o))
          have HRR : Hid ((R.set i ⟨a, l, o⟩).length = n ∧ (R.set i ⟨a, l, o⟩).take (i + 1) = less ow (ps.take (j + 1)) ∧ (R.set i ⟨a, l, o⟩).drop (j + 1) = ps.drop (j + 1)) := by
            refine ⟨by rw [List.length_set]; exact HR.out.1, ?_, ?_⟩
            · rw [HT1.out, List.take_succ_eq_append_getElem (by rw [List.length_set]; exact hir), List.take_set_of_le (Nat.le_refl _), List.getElem_set_self, HR.out.2.1]
            · rw [List.drop_set_of_lt (by omega)]
              exact HD2.out
          clear hcell hfz
          go_wp2_with fail
          go_roundw
          case rel => exact ⟨i + 1, j + 1, _, by omega, by omega, by rw [Int.natCast_add]; rfl, by rw [Int.natCast_add]; rfl, HRR, HRs, HNs, HSs⟩
          case measure => simp [intOf]; omega
      · obtain rfl : j = n := by omega
        have hT : ps.take j = ps := by rw [HFin.out]; exact List.take_length
        have HR1 := HR.out.1
        have HR2 := HR.out.2.1
        rw [hT] at HR2
        have hii : i = (less ow ps).length := by rw [← HR2, List.length_take]; omega
        rw [hT] at HB
        have hs1 := slice_ln (P := Try.prog) E_pc (some ⟨g, 0, none⟩) j c .i64 (i : Int) i (j - i) (c - i) rfl (by omega) rfl rfl
        rw [cutA_some (show ¬ c = i by omega)] at hs1
        have hs2 := slice_hn (P := Try.prog) E_pc (some ⟨g, 0, none⟩) j c .i64 (i : Int) i rfl (by omega)
        obtain ⟨g', cur, e0, hBg, hg, hnc, hcm, hcs, hcx⟩ := own_blk HOw.out (by omega)
        injection e0 with e0
        injection e0 with e0
        subst e0
        obtain ⟨hunder, _, i1, z, hi1, hz1, hz2, hz3, hz4⟩ := E_pc
        have hzv : ∀ w, (zeroValue 47).run Try.prog w = .ok (.agg #[.int .i64 0, .int .i64 0, .int .i64 0]) w := fun w => by kernel_rfl
        have hzo : ∀ v ∈ (Builtin.zeroCells (Value.agg #[.int .i64 0, .int .i64 0, .int .i64 0]).cells (j - i)).toList, v.oneCell' = true := fun v hv => by
          simp only [Builtin.zeroCells, Array.toList_map, List.mem_map] at hv
          obtain ⟨q, _, rfl⟩ := hv
          have hq : q % (Value.agg #[.int .i64 0, .int .i64 0, .int .i64 0]).cells.size < 3 := Nat.mod_lt _ (by decide)
          generalize q % (Value.agg #[.int .i64 0, .int .i64 0, .int .i64 0]).cells.size = r at hq ⊢
          match r, hq with
          | 0, _ => rfl
          | 1, _ => rfl
          | 2, _ => rfl
        have hcl : ∀ ty, (Builtin.clear_ #[34] ty #[.slice (some ⟨g, i * 3, none⟩) (j - i) (c - i)]).run Try.prog wr = _ := fun ty =>
          run_clearN wr 34 47 ty _ hunder hzv 3 rfl g (i * 3) (j - i) (c - i) hzo (by omega) cur 47 hg (by rw [hcs]; omega)
        have hzl : (Builtin.zeroCells (Value.agg #[.int .i64 0, .int .i64 0, .int .i64 0]).cells (j - i)).toList.length = (j - i) * 3 := by simp [Builtin.zeroCells, Value.cells]
        generalize (Builtin.zeroCells (Value.agg #[.int .i64 0, .int .i64 0, .int .i64 0]).cells (j - i)).toList = Z at hcl hzl
        obtain ⟨C2, hC2⟩ : ∃ C2 : Array Value, C2 = (cur.toList.take (i * 3) ++ Z ++ cur.toList.drop (i * 3 + Z.length)).toArray := ⟨_, rfl⟩
        rw [← hC2] at hcl
        have hC2s : C2.size = c * 3 := by
          rw [hC2]
          simp [hzl, hcs]
          omega
        have hC2t : C2.toList.take (i * 3) = pcs (less ow ps) := by
          rw [hC2, ← HR2, pcs_take R i (by omega), ← hcx, List.append_assoc, List.take_append_of_le_length (by rw [List.length_take, Array.length_toList, hcs]; omega), List.take_take, List.take_take]
          congr 1
          omega
        have HF2 : Hid ((wr.setRow g C2).ownsRow B 47 3 (.slice (some ⟨g, 0, none⟩) i c) i (pcs (less ow ps)) ∧ Blk (wr.setRow g C2) N 3 #[.int .i64 (sumP (mine ow ps) : Int)] ∧ Step (fun k => k = N ∨ blkOf (some (⟨g, 0, none⟩ : Addr)) = some k) w (wr.setRow g C2)) :=
          ⟨own_mk hBg (Blk.reset hg) (by rw [pcs_len, ← hii]) (by omega) hcm hC2s hC2t, (setRow_other wr g N C2 (Ne.symm hgN)).trans HB.out, HS.out.setRow (.inl (.inr rfl)) C2⟩
        have HII := Lib.hid hii
        clear hii
        clear hC2 hC2s hC2t hzl hzo hzv hcx hcs hg hi1 hz1 hz2 hz3 hz4 HR2 HR1 hT
        go_wp2_with (at_builtin; refine wpList_clear_run _ rfl _ 34 rfl _ rfl (hcl _) ?_)
        go_ret
        rw [← HII.out]
        exact ⟨rfl, HF2.out.1, HF2.out.2.1, HF2.out.2.2⟩

set_option maxRecDepth 100000 in
set_option maxHeartbeats 3200000 in
theorem give_walk (w : World) (X : Nat) (A : Option Addr) (c fm sz B : Nat) (ps : List Pc) (h : Rm w X A c fm sz B ps) (hn : ps.length ≤ 1000000) (hl : ∀ p ∈ ps, p.len ≤ 1073741824) (ow : Int) :
    Calls Try.prog 11 #[.pointer (some ⟨X, 0, none⟩), .int .i64 ow] w fun e w' => e = .returned (.int .i64 (sumP (mine ow ps) : Int)) ∧ Rm w' X A c fm sz B (less ow ps) ∧ Step (fun k => k = X ∨ blkOf A = some k) w w' := by
  have x2 := h.c2
  have HH := Lib.hid h
  have hXl := h.lt
  have hAX := h.apart
  have hmf : ∀ (fn : Fn) (first cap : Array Value) (w : World), (Instr.makeFunc fn first cap).run Try.prog w = .ok (.func fn first cap) w := fun _ _ _ _ => rfl
  have HO := Lib.hid ((Blk.new w 3 #[.int .i64 ow]).alloc (.cells #[.int .i64 0] 3))
  have HN : Hid (Blk ((w.alloc (.cells #[.int .i64 ow] 3)).alloc (.cells #[.int .i64 0] 3)) (w.heap.size + 1) 3 #[.int .i64 0]) := by
    have h9 := Blk.new (w.alloc (.cells #[.int .i64 ow] 3)) 3 #[.int .i64 0]
    rw [show (w.alloc (.cells #[.int .i64 ow] 3)).heap.size = w.heap.size + 1 by simp] at h9
    exact h9
  have hT : Step (fun _ => False) w ((w.alloc (.cells #[.int .i64 ow] 3)).alloc (.cells #[.int .i64 0] 3)) := (Step.refl.alloc _).alloc _
  have HT := Lib.hid hT
  obtain ⟨V, hV⟩ : ∃ V, V = (w.alloc (.cells #[.int .i64 ow] 3)).alloc (.cells #[.int .i64 0] 3) := ⟨_, rfl⟩
  rw [← hV] at HO HN HT
  have HX := Lib.hid (HH.out.quiet HT.out)
  have HD := Lib.hid (sdel_walk V A ps.length c B ps w.heap.size (w.heap.size + 1) ow rfl HX.out.own HO.out HN.out (by omega) hn hl)
  have HV := Lib.hid hV
  have hlt := fun k hk => h.lt2 k hk
  clear h hT hV hl
  obtain ⟨n, hnn⟩ : ∃ n, n = ps.length := ⟨_, rfl⟩
  rw [← hnn] at x2 HD
  clear hnn
  rw [gclo] at HD
  go_enter Try.func11, Try.ntmps11
  go_wp2_with fail
  rw [← HV.out]
  refine HD.out.mono ?_
  rintro e w5 ⟨rfl, hown, hb, hS⟩
  have hXN : ¬ (X = w.heap.size + 1 ∨ blkOf A = some X) := fun e => by
    rcases e with e | e
    · omega
    · exact hAX e
  have hB5 := HX.out.blk.step hS hXN
  have cc := hB5.cell 2
  have zz := hB5.frozen 2
  simp at cc
  have hXs := hB5.set_ 2 (.slice A (less ow ps).length c)
  simp at hXs
  have hst : Step (fun k => k = X) w5 (w5.setCell ⟨X, 2, none⟩ (.slice A (less ow ps).length c)) := (Step.refl (F := fun k => k = X)).setCell (p := ⟨X, 2, none⟩) (.inl rfl) _
  have hNs := hb.step hst (show ¬ w.heap.size + 1 = X by omega)
  have n0 := hNs.cell 0
  simp at n0
  have HF : Hid (Rm (w5.setCell ⟨X, 2, none⟩ (.slice A (less ow ps).length c)) X A c fm sz B (less ow ps) ∧ Step (fun k => k = X ∨ blkOf A = some k) w (w5.setCell ⟨X, 2, none⟩ (.slice A (less ow ps).length c))) :=
    ⟨⟨hXs, own_step hown hst (fun k hk e => hAX (by rw [ownBlock_slice] at hk; rw [hk, e]))⟩, ((HT.out.mono fun _ _ hf => hf.elim).trans' hS (fun k hk => by
      rcases hk with hk | hk
      · exact .inr (by omega)
      · exact .inl (.inr hk))).setCell (.inl (.inl rfl)) _⟩
  clear hNs hst hXs hB5 hb hown hS
  go_wp2_with fail
  go_ret
  exact ⟨rfl, HF.out.1, HF.out.2⟩
end Go.Proofs.Ytjpjobpkeejmcaa
