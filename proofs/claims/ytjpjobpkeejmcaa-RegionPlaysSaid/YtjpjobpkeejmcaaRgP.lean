/-
  region: the reference: Less, in.
-/
import Derived.Test.YtjpjobpkeejmcaaRgN
set_option linter.unusedVariables false
set_option linter.unusedSimpArgs false
namespace Go.Proofs.Ytjpjobpkeejmcaa
open Go.RowKit

theorem E_rp : ElemTy Try.prog 49 54 3 24 := elem_of Try.underlying49 (z := .agg #[.int .i64 0, .int .i64 0, .int .i64 0]) (by kernel_rfl) rfl (by decide)
theorem less_take' (ow : Int) (l : List Pc) (j : Nat) (h : j < l.length) : less ow (l.take (j + 1)) = less ow (l.take j) ++ (if l[j].ow = ow then [] else [l[j]]) := less_take ow l j h

set_option maxRecDepth 100000 in
set_option maxHeartbeats 3200000 in
theorem rless_walk (w : World) (A : Option Addr) (n c : Nat) (l : List Pc) (S : Nat → Prop) (ow : Int) (hN : n = l.length) (hr : Reads w S 3 A n (pcs l)) (hn : n ≤ 1000000) (hl : ∀ p ∈ l, p.len ≤ 1073741824) :
    Calls Try.prog 22 #[.slice A n c, .int .i64 ow] w fun e w' => ∃ D' c', e = .returned (.tuple #[.slice D' (less ow l).length c', .int .i64 (sumP (mine ow l) : Int)]) ∧
      w'.ownsRow w.heap.size 54 3 (.slice D' (less ow l).length c') (less ow l).length (pcs (less ow l)) ∧ Step (fun _ => False) w w' := by
  have HR := Lib.hid hr
  have HN := Lib.hid hN
  have HS : Hid (∀ j, sumP (mine ow (l.take j)) ≤ 1073741824000000) := fun j => by
    have h1 := sumP_le (mine ow (l.take j)) 1073741824 (fun p hp => hl p (List.mem_of_mem_take (List.mem_filter.1 hp).1))
    have h2 : (mine ow (l.take j)).length ≤ (l.take j).length := List.length_filter_le _ _
    have h3 : (l.take j).length ≤ 1000000 := by rw [List.length_take]; omega
    omega
  have HL := Lib.hid hl
  clear hr hN hl
  go_enter Try.func22, Try.ntmps22
  go_wp2_with fail
  go_loopw [6, 7, 8] (fun ov sv iv wr => ∃ (j m c2 : Nat) (D2 : Option Addr), j ≤ n ∧ m ≤ j ∧ ov = .slice D2 m c2 ∧ sv = .int .i64 ((sumP (mine ow (l.take j)) : Nat) : Int) ∧ iv = .int .i64 (j : Int) ∧ Hid (m = (less ow (l.take j)).length) ∧ Hid (wr.ownsRow w.heap.size 54 3 (.slice D2 m c2) m (pcs (less ow (l.take j)))) ∧ Hid (Step (fun _ => False) w wr)) (fun _ _ iv _ => n + 1 - (intOf iv).toNat)
  case atStart => exact ⟨0, 0, 0, none, by omega, by omega, rfl, rfl, rfl, rfl, World.ownsRow_nil _ _ _ _, Step.refl⟩
  case round =>
    obtain ⟨j, m, c2, D2, hj, hmj, rfl, rfl, rfl, HM, HO, HSj⟩ := hrel
    by_cases hlt : j < n
    · have g1 : (j : Int) < (n : Int) := by omega
      have i0 : (0 : Int) ≤ (j : Int) := by omega
      have hw1 := IntWalk.i64_in ((j : Int) + 1) (by omega)
      have hjl : j < l.length := by rw [← HN.out]; exact hlt
      obtain ⟨bk, off, rfl, _, hbl, hc⟩ := reads_row Pc.cells 3 (by decide) Pc.three (HR.out.step HSj.out (fun _ _ => id)) (k := j) hjl
      have HT1 := Lib.hid (less_take ow l j hjl)
      have HT2 := Lib.hid (mine_take ow l j hjl)
      have hs := HS.out j
      have hpl := HL.out l[j] (List.getElem_mem hjl)
      generalize l[j] = p at hc HT1 HT2 hpl
      obtain ⟨a, ln, o⟩ := p
      have c0 := hc 0 _ rfl
      have c1 := hc 1 _ rfl
      have c2' := hc 2 _ rfl
      simp only [Nat.add_zero] at c0 c1 c2' HT1 HT2 hpl
      clear hc
      by_cases ho : o = ow
      · subst ho
        have hob : (o == o) = true := beq_self_eq_true o
        rw [if_pos rfl] at HT2
        rw [if_pos rfl, List.append_nil] at HT1
        have hw2 := IntWalk.i64_in (((sumP (mine o (l.take j)) : Nat) : Int) + (ln : Int)) (by omega)
        clear hs
        go_wp2_with fail
        go_roundw
        case rel => exact ⟨j + 1, m, c2, D2, by omega, by omega, rfl, by rw [HT2.out, Int.natCast_add], by rw [Int.natCast_add]; rfl, by rw [Hid, HT1.out]; exact HM.out, by rw [HT1.out]; exact HO, HSj⟩
        case measure => simp [intOf]; omega
      · have hob : (o == ow) = false := by simpa using ho
        rw [if_neg ho, Nat.add_zero] at HT2
        rw [if_neg ho] at HT1
        have hOa := HO.out.alloc (.cells #[.int .i64 (a : Int), .int .i64 (ln : Int), .int .i64 o] 54)
        have hrn := reads_new wr #[Value.int .i64 (a : Int), .int .i64 (ln : Int), .int .i64 o] 54 3 1 rfl
        have hone : ∀ u ∈ #[Value.int .i64 (a : Int), .int .i64 (ln : Int), .int .i64 o].toList, u.oneCell' = true := by simp [Value.oneCell']
        have hm1 : m + 1 ≤ maxLen := by unfold maxLen; omega
        have hsz : w.heap.size ≤ (wr.alloc (.cells #[.int .i64 (a : Int), .int .i64 (ln : Int), .int .i64 o] 54)).heap.size := (HSj.out.alloc _).size
        clear hs
        go_wp2_with (at_builtin; refine wpList_append_src _ rfl _ _ (by rfl) E_rp (by rfl) hOa (by rfl) hrn hone hm1 (by omega) hsz ?_; intro D3 c3 w3 hown hgrow hat)
        have hDge : ∀ q, blkOf D2 = some q → w.heap.size ≤ q := fun q hq => own_ge HO.out q (by rw [ownBlock_slice]; exact hq)
        have HT3 := Lib.hid ((HSj.out.alloc _).grown hgrow (fun q hq => .inr (hDge q hq)))
        have hus : pcs (less ow (l.take j)) ++ #[Value.int .i64 (a : Int), .int .i64 (ln : Int), .int .i64 o].toList = pcs (less ow (l.take (j + 1))) := by rw [HT1.out, pcs_append]; rfl
        rw [hus] at hown
        have HM3 : Hid (m + 1 = (less ow (l.take (j + 1))).length) := by rw [Hid, HT1.out, List.length_append, ← HM.out]; rfl
        go_roundw
        case rel => exact ⟨j + 1, m + 1, c3, D3, by omega, by omega, rfl, by rw [HT2.out]; rfl, by rw [Int.natCast_add]; rfl, HM3, hown, HT3⟩
        case measure => simp [intOf]; omega
    · obtain rfl : j = n := by omega
      have hLt : l.take j = l := by rw [HN.out]; exact List.take_length
      rw [hLt] at HM HO ⊢
      clear hLt
      go_wp2_with fail
      go_ret2
      have e1 := HM.out
      have e2 := HO.out
      rw [e1] at e2
      exact ⟨D2, c2, by rw [← e1]; rfl, e2, HSj.out⟩

/-- Is a place within a piece? -/
def inP (first : Bool) (x : Nat) (p : Pc) : Prop := (p.at_ < x ∧ x < p.at_ + p.len) ∨ (first = true ∧ x = p.at_)
instance (first : Bool) (x : Nat) (p : Pc) : Decidable (inP first x p) := by unfold inP; infer_instance
def inB (first : Bool) (x : Nat) (l : List Pc) : Bool := l.any fun p => decide (inP first x p)

set_option maxRecDepth 100000 in
set_option maxHeartbeats 6400000 in
theorem rin_walk (w : World) (A : Option Addr) (n c : Nat) (l : List Pc) (S : Nat → Prop) (x : Nat) (first : Bool) (hN : n = l.length) (hr : Reads w S 3 A n (pcs l)) (hn : n ≤ 1000000) (hl : ∀ p ∈ l, p.at_ + p.len ≤ 1073741824) (hx : x ≤ 4294967296) :
    Calls Try.prog 30 #[.slice A n c, .int .i64 (x : Int), .bool first] w fun e w' => e = .returned (.bool (inB first x l)) ∧ Step (fun _ => False) w w' := by
  have HR := Lib.hid hr
  have HN := Lib.hid hN
  have HL := Lib.hid hl
  obtain ⟨b, hb⟩ : ∃ b, b = inB first x l := ⟨_, rfl⟩
  rw [← hb]
  have HB := Lib.hid hb
  clear hr hN hl hb
  go_enter Try.func30, Try.ntmps30
  go_wp2_with fail
  go_loopw [7] (fun iv wr => ∃ (j : Nat), j ≤ n ∧ iv = .int .i64 (j : Int) ∧ Hid (∀ p ∈ l.take j, ¬ inP first x p) ∧ Hid (Step (fun _ => False) w wr)) (fun iv _ => n + 1 - (intOf iv).toNat)
  case atStart => exact ⟨0, by omega, rfl, (fun p hp => by cases hp), Step.refl⟩
  case round =>
    obtain ⟨j, hj, rfl, HF, HSj⟩ := hrel
    by_cases hlt : j < n
    · have g1 : (j : Int) < (n : Int) := by omega
      have i0 : (0 : Int) ≤ (j : Int) := by omega
      have hw1 := IntWalk.i64_in ((j : Int) + 1) (by omega)
      have hjl : j < l.length := by rw [← HN.out]; exact hlt
      obtain ⟨bk, off, rfl, _, hbl, hc⟩ := reads_row Pc.cells 3 (by decide) Pc.three (HR.out.step HSj.out (fun _ _ => id)) (k := j) hjl
      have HX : Hid (∀ p ∈ l.take (j + 1), p ∈ l.take j ∨ p = l[j]) := fun p hp => by
        rw [List.take_succ_eq_append_getElem hjl, List.mem_append, List.mem_singleton] at hp
        exact hp
      have hmem := List.getElem_mem hjl
      have hpl := HL.out l[j] hmem
      have HMem := Lib.hid hmem
      clear hmem
      generalize l[j] = p at hc HX hpl HMem
      obtain ⟨a, ln, o⟩ := p
      have c0 := hc 0 _ rfl
      have c1 := hc 1 _ rfl
      simp only [Nat.add_zero] at c0 c1 hpl
      clear hc
      have hw2 := IntWalk.i64_in ((a : Int) + (ln : Int)) (by omega)
      by_cases h1 : a < x
      · have d1 : (a : Int) < (x : Int) := by omega
        have d1' : decide ((a : Int) < (x : Int)) = true := decide_eq_true d1
        have d1n : decide (a < x) = true := decide_eq_true h1
        by_cases h2 : x < a + ln
        · have d2 : (x : Int) < (a : Int) + (ln : Int) := by omega
          have d2' : decide ((x : Int) < (a : Int) + (ln : Int)) = true := decide_eq_true d2
          have hbt : b = true := by
            rw [HB.out, inB, List.any_eq_true]
            exact ⟨_, HMem.out, decide_eq_true ((.inl ⟨h1, h2⟩) : inP first x ⟨a, ln, o⟩)⟩
          subst hbt
          go_wp2_with fail
          go_quiet (fail)
          go_wp2_with fail
          go_ret
          exact ⟨rfl, HSj.out.drewN _⟩
        · have d2 : ¬ (x : Int) < (a : Int) + (ln : Int) := by omega
          have d2' : decide ((x : Int) < (a : Int) + (ln : Int)) = false := decide_eq_false d2
          cases first with
          | false =>
            have HF2 : Hid (∀ p ∈ l.take (j + 1), ¬ inP false x p) := fun p hp => by
              rcases HX.out p hp with h | rfl
              · exact HF.out p h
              · rintro (⟨k1, k2⟩ | ⟨k1, k2⟩)
                · exact h2 k2
                · cases k1
            go_wp2_with fail
            go_quiet (fail)
            go_wp2_with fail
            go_roundw
            case rel => exact ⟨j + 1, by omega, by rw [Int.natCast_add]; rfl, HF2, HSj.out.drewN _⟩
            case measure => simp [intOf]; omega
          | true =>
            by_cases h3 : x = a
            · have d3 : ((x : Int) == (a : Int)) = true := by rw [h3]; exact beq_self_eq_true _
              have d3n : (x == a) = true := by rw [h3]; exact beq_self_eq_true _
              have hin : inP true x ⟨a, ln, o⟩ := .inr ⟨rfl, h3⟩
              clear h3
              have hbt : b = true := by
                rw [HB.out, inB, List.any_eq_true]
                exact ⟨_, HMem.out, decide_eq_true (hin : inP true x ⟨a, ln, o⟩)⟩
              subst hbt
              go_wp2_with fail
              go_quiet (fail)
              go_wp2_with fail
              go_ret
              exact ⟨rfl, HSj.out.drewN _⟩
            · have d3 : ((x : Int) == (a : Int)) = false := by simp; omega
              have d3n : (x == a) = false := by simpa using h3
              have HF2 : Hid (∀ p ∈ l.take (j + 1), ¬ inP true x p) := fun p hp => by
                rcases HX.out p hp with h | rfl
                · exact HF.out p h
                · rintro (⟨k1, k2⟩ | ⟨k1, k2⟩)
                  · exact h2 k2
                  · exact h3 k2
              go_wp2_with fail
              go_quiet (fail)
              go_wp2_with fail
              go_roundw
              case rel => exact ⟨j + 1, by omega, by rw [Int.natCast_add]; rfl, HF2, HSj.out.drewN _⟩
              case measure => simp [intOf]; omega
      · have d1 : ¬ (a : Int) < (x : Int) := by omega
        have d1' : decide ((a : Int) < (x : Int)) = false := decide_eq_false d1
        have d1n : decide (a < x) = false := decide_eq_false h1
        cases first with
        | false =>
          have HF2 : Hid (∀ p ∈ l.take (j + 1), ¬ inP false x p) := fun p hp => by
            rcases HX.out p hp with h | rfl
            · exact HF.out p h
            · rintro (⟨k1, k2⟩ | ⟨k1, k2⟩)
              · exact h1 k1
              · cases k1
          go_wp2_with fail
          go_quiet (fail)
          go_wp2_with fail
          go_roundw
          case rel => exact ⟨j + 1, by omega, by rw [Int.natCast_add]; rfl, HF2, HSj.out.drewN _⟩
          case measure => simp [intOf]; omega
        | true =>
          by_cases h3 : x = a
          · have d3 : ((x : Int) == (a : Int)) = true := by rw [h3]; exact beq_self_eq_true _
            have d3n : (x == a) = true := by rw [h3]; exact beq_self_eq_true _
            have hin : inP true x ⟨a, ln, o⟩ := .inr ⟨rfl, h3⟩
            clear h3
            have hbt : b = true := by
              rw [HB.out, inB, List.any_eq_true]
              exact ⟨_, HMem.out, decide_eq_true (hin : inP true x ⟨a, ln, o⟩)⟩
            subst hbt
            go_wp2_with fail
            go_quiet (fail)
            go_wp2_with fail
            go_ret
            exact ⟨rfl, HSj.out.drewN _⟩
          · have d3 : ((x : Int) == (a : Int)) = false := by simp; omega
            have d3n : (x == a) = false := by simpa using h3
            have HF2 : Hid (∀ p ∈ l.take (j + 1), ¬ inP true x p) := fun p hp => by
              rcases HX.out p hp with h | rfl
              · exact HF.out p h
              · rintro (⟨k1, k2⟩ | ⟨k1, k2⟩)
                · exact h1 k1
                · exact h3 k2
            go_wp2_with fail
            go_quiet (fail)
            go_wp2_with fail
            go_roundw
            case rel => exact ⟨j + 1, by omega, by rw [Int.natCast_add]; rfl, HF2, HSj.out.drewN _⟩
            case measure => simp [intOf]; omega
    · obtain rfl : j = n := by omega
      have hLt : l.take j = l := by rw [HN.out]; exact List.take_length
      have hbf : b = false := by
        rw [HB.out, inB, List.any_eq_false]
        intro p hp
        have h5 := HF.out p (by rw [hLt]; exact hp)
        simpa using h5
      subst hbf
      clear hLt
      go_wp2_with fail
      go_ret
      exact ⟨rfl, HSj.out⟩
end Go.Proofs.Ytjpjobpkeejmcaa
