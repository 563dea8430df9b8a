/-
  instr: Shape of any row.
-/
import Derived.Test.YtfemeendkjcffaaInsA
import Derived.Test.YtfemeendkjcffaaGbA
set_option linter.unusedVariables false
set_option linter.unusedSimpArgs false
namespace Go.Proofs.Ytfemeendkjcffaa
open Go.RowKit

/-- An instruction, as a record. -/
structure Ig where
  op : Nat
  a : Nat
  b : Nat
  n : Nat
  c : Nat
  A : Option Addr
  L : List Nat
instance : Inhabited Ig := ⟨⟨0, 0, 0, 0, 0, none, []⟩⟩
def Ig.cells (x : Ig) : List Value := (insC (x.op : Int) (x.a : Int) (x.b : Int) x.A x.n x.c).toList
theorem Ig.four (x : Ig) : x.cells.length = 4 := rfl
def igs (l : List Ig) : List Value := l.flatMap Ig.cells
theorem igs_append (l m : List Ig) : igs (l ++ m) = igs l ++ igs m := by simp [igs]
def opsL (l : List Ig) : List Nat := l.map Ig.op
theorem ops_drop (l : List Ig) (j : Nat) (h : j < l.length) : (opsL l).drop j = l[j].op :: (opsL l).drop (j + 1) := by
  rw [opsL, List.drop_eq_getElem_cons (by rw [List.length_map]; exact h), List.getElem_map]
def shpF (l : List Ig) : Nat := if walkF (opsL l) 0 [] = l.length ∧ ¬ l.length = 0 then 0 else 30

set_option maxRecDepth 100000 in
set_option maxHeartbeats 6400000 in
theorem shape_walk (w : World) (n c : Nat) (A : Option Addr) (l : List Ig) (S : Nat → Prop) (HN : Hid (n = l.length)) (hnb : n ≤ 1000) (hop : ∀ x ∈ l, x.op < 256) (hr : Reads w S 4 A n (igs l)) :
    Calls Try.prog 62 #[.slice A n c] w fun e w' => e = .returned (.int .i64 (shpF l : Nat)) ∧ Step (fun _ => False) w w' := by
  have HR := Lib.hid hr
  have HOP := Lib.hid hop
  have g0 : ¬ (20000 : Int) < (n : Int) := by omega
  obtain ⟨R, hR⟩ : ∃ R, R = shpF l := ⟨_, rfl⟩
  rw [← hR]
  have HSh := Lib.hid hR
  clear hr hop hR
  have HO0 : Hid ((w.alloc (.cells #[.int .u8 0] 5)).ownsRow w.heap.size 5 1 (.slice (some ⟨w.heap.size, 0, none⟩) 1 1) 1 (u8s (stk []))) :=
    World.ownsRow_lit (base := w.heap.size) (e := 5) (size := 1) w #[Value.int .u8 0] 1 (Nat.le_refl _) (by decide) rfl
  have HS0 := Lib.hid ((Step.refl (F := fun _ => False)).alloc (w := w) (.cells #[.int .u8 0] 5))
  go_enter Try.func62, Try.ntmps62
  go_wp2_with fail
  go_loopw [3, 12] (fun ov iv wr => ∃ (j c2 : Nat) (g : Nat) (st : List Nat), j ≤ n ∧ ov = .slice (some ⟨g, 0, none⟩) (st.length + 1) c2 ∧ iv = .int .i64 (j : Int) ∧ Hid (walkF ((opsL l).drop j) j st = walkF (opsL l) 0 []) ∧ st.length ≤ j ∧ Hid (∀ x ∈ st, x < 256) ∧ Hid (Step (fun _ => False) w wr) ∧
    Hid (wr.ownsRow w.heap.size 5 1 (.slice (some ⟨g, 0, none⟩) (st.length + 1) c2) (st.length + 1) (u8s (stk st)))) (fun _ iv _ => n + 1 - (intOf iv).toNat)
  case atStart => exact ⟨0, 1, w.heap.size, [], by omega, rfl, rfl, by rw [Hid, List.drop_zero], by simp, (fun x hx => by cases hx), HS0, HO0⟩
  case round =>
    obtain ⟨j, c2, g, st, hj, rfl, rfl, HI, hsl, HB, HS, HO⟩ := hrel
    by_cases hlt : j < n
    · have g1 : (j : Int) < (n : Int) := by omega
      have i0 : (0 : Int) ≤ (j : Int) := by omega
      have hw1 := IntWalk.i64_in ((j : Int) + 1) (by omega)
      have hjl : j < l.length := by rw [← HN.out]; exact hlt
      obtain ⟨bk, off, rfl, _, hbl, hc⟩ := reads_row Ig.cells 4 (by decide) Ig.four (HR.out.step HS.out (fun _ _ => id)) (k := j) hjl
      have hx := HOP.out l[j] (List.getElem_mem hjl)
      have hI := HI.out
      rw [ops_drop l j hjl] at hI
      obtain ⟨x, hxe⟩ : ∃ x, x = l[j] := ⟨_, rfl⟩
      rw [← hxe] at hx hc hI
      clear hxe HI
      obtain ⟨op, a, b, m, cc, B, L⟩ := x
      have c0 := hc 0 _ rfl
      have c1 := hc 1 _ rfl
      have c2' := hc 2 _ rfl
      have c3 := hc 3 _ rfl
      simp only [Nat.add_zero] at c0
      simp only at hx c0 c1 c2' c3 hI
      have HI := Lib.hid hI
      clear hc hI
      have HOp : Hid (∀ w, Calls Try.prog 28 #[.int .u8 (op : Int)] w fun e w' => e = .returned (.bool (decide (2 ≤ op) && decide (op ≤ 4))) ∧ w' = w) := fun w => opens_walk w op hx
      obtain ⟨G, hG⟩ : ∃ G, G = (some ⟨g, 0, none⟩ : Option Addr) := ⟨_, rfl⟩
      by_cases h24 : 2 ≤ op ∧ op ≤ 4
      · have hd : (decide (2 ≤ op) && decide (op ≤ 4)) = true := by simp [h24]
        rw [hd] at HOp
        have HI2 : Hid (walkF ((opsL l).drop (j + 1)) (j + 1) (op :: st) = walkF (opsL l) 0 []) := by rw [Hid, ← HI.out, walkF_open h24]
        have HB2 : Hid (∀ x ∈ op :: st, x < 256) := fun x hx' => by
          rcases List.mem_cons.1 hx' with rfl | hx'
          · exact hx
          · exact HB.out x hx'
        have HBy := Lib.hid (byte_cell op hx)
        have HOa := Lib.hid ((HO.out.alloc (.cells #[.int .u8 (op : Int), .int .u64 (a : Int), .int .u64 (b : Int), .slice B m cc] 50)).alloc (.cells #[.int .u8 (op : Int)] 5))
        have HSa := Lib.hid ((HS.out.alloc (.cells #[.int .u8 (op : Int), .int .u64 (a : Int), .int .u64 (b : Int), .slice B m cc] 50)).alloc (.cells #[.int .u8 (op : Int)] 5))
        have hrn := reads_new (wr.alloc (.cells #[.int .u8 (op : Int), .int .u64 (a : Int), .int .u64 (b : Int), .slice B m cc] 50)) #[Value.int .u8 (op : Int)] 5 1 1 rfl
        rw [show (wr.alloc (.cells #[.int .u8 (op : Int), .int .u64 (a : Int), .int .u64 (b : Int), .slice B m cc] 50)).heap.size = wr.heap.size + 1 by simp] at hrn
        have hone : ∀ u ∈ #[Value.int .u8 (op : Int)].toList, u.oneCell' = true := by simp [Value.oneCell']
        have hm : st.length + 1 + 1 ≤ maxLen := by unfold maxLen; omega
        have hsz := HSa.out.size
        clear hd HI
        go_wp2_with fail
        refine (HOp.out _).mono ?_
        rintro e wS ⟨rfl, rfl⟩
        go_wp2_with (at_builtin; refine wpList_append_src _ rfl _ _ (by rfl) E_u8 (by rfl) HOa.out (by rfl) hrn hone hm (by omega) hsz ?_; intro D9 c9 w9 hown hgrow hat)
        have HS9 := Lib.hid (grow_step HSa.out hgrow HOa.out (Nat.le_refl _))
        have hcs : u8s (stk st) ++ #[Value.int .u8 (op : Int)].toList = u8s (stk (op :: st)) := by rw [stk_push, u8s_append, HBy.out]
        rw [hcs] at hown
        obtain ⟨g9, hg9⟩ : ∃ g9, D9 = some ⟨g9, 0, none⟩ := by
          obtain ⟨g9, cap, hv, _⟩ := hown.form (by omega)
          injection hv with hv
          exact ⟨g9, hv⟩
        subst hg9
        go_roundw
        case rel => exact ⟨j + 1, c9, g9, op :: st, by omega, rfl, by rw [Int.natCast_add]; rfl, HI2, by simp; omega, HB2, HS9, hown⟩
        case measure => simp [intOf]; omega
      · have hd : (decide (2 ≤ op) && decide (op ≤ 4)) = false := by
          cases hq : (decide (2 ≤ op) && decide (op ≤ 4)) with
          | false => rfl
          | true =>
            simp only [Bool.and_eq_true, decide_eq_true_eq] at hq
            exact absurd hq h24
        rw [hd] at HOp
        clear hd
        have HSb := Lib.hid (HS.out.alloc (.cells #[.int .u8 (op : Int), .int .u64 (a : Int), .int .u64 (b : Int), .slice B m cc] 50))
        have HOb := Lib.hid (HO.out.alloc (.cells #[.int .u8 (op : Int), .int .u64 (a : Int), .int .u64 (b : Int), .slice B m cc] 50))
        by_cases h11 : op = 11
        · subst h11
          cases st with
          | nil =>
            have hR2 : Hid (R = if j = n - 1 then 0 else 30) := by
              have h1 := HI.out
              rw [walkF_last] at h1
              rw [Hid, HSh.out, shpF, ← h1, ← HN.out]
              by_cases h2 : j = n - 1
              · rw [if_pos h2, if_pos ⟨by omega, by omega⟩]
              · rw [if_neg h2, if_neg (by rintro ⟨h3, _⟩; omega)]
            have hwn := IntWalk.i64_in ((n : Int) - 1) (by omega)
            have HE : Hid (∀ w b, Calls Try.prog 158 #[.bool b] w fun e w' => e = .returned (.int .i64 (if b then 0 else 30 : Nat)) ∧ w' = w) := fun w b => ended_walk w b
            clear HI
            by_cases h2 : j = n - 1
            · have h3 : ((j : Int) == (n : Int) - 1) = true := by simp; omega
              have hR3 : R = 0 := by rw [hR2.out, if_pos h2]
              clear hR2 h2
              subst hR3
              go_wp2_with fail
              refine (HOp.out _).mono ?_
              rintro e wS ⟨rfl, rfl⟩
              go_wp2_with fail
              refine (HE.out _ _).mono ?_
              rintro e wS ⟨rfl, rfl⟩
              go_wp2_with fail
              go_ret
              exact ⟨rfl, HSb.out⟩
            · have h3 : ((j : Int) == (n : Int) - 1) = false := by simp; omega
              have hR3 : R = 30 := by rw [hR2.out, if_neg h2]
              clear hR2 h2
              subst hR3
              go_wp2_with fail
              refine (HOp.out _).mono ?_
              rintro e wS ⟨rfl, rfl⟩
              go_wp2_with fail
              refine (HE.out _ _).mono ?_
              rintro e wS ⟨rfl, rfl⟩
              go_wp2_with fail
              go_ret
              exact ⟨rfl, HSb.out⟩
          | cons y st =>
            have HI2 : Hid (walkF ((opsL l).drop (j + 1)) (j + 1) st = walkF (opsL l) 0 []) := by rw [Hid, ← HI.out, walkF_end]
            have hlc : (y :: st).length = st.length + 1 := rfl
            rw [hlc] at HOb hsl ⊢
            have hcap := own_cap HOb.out
            have hO2 := own_take HOb.out (k := st.length + 1) (by omega)
            rw [Nat.mul_one, stk_pop] at hO2
            have hwl := IntWalk.i64_in ((st.length : Int) + 1) (by omega)
            have sh := slice_hn E_u8 (some ⟨g, 0, none⟩) (st.length + 1 + 1) c2 .i64 ((st.length : Int) + 1) (st.length + 1) (by omega) (by omega)
            have hB2 : Hid (∀ x ∈ st, x < 256) := fun x hx' => HB.out x (List.mem_cons_of_mem _ hx')
            have hHO2 := Lib.hid hO2
            have hz0 : ((st.length : Int) + 1 == 0) = false := by simp; omega
            clear HI hcap hO2 hlc
            go_wp2_with fail
            refine (HOp.out _).mono ?_
            rintro e wS ⟨rfl, rfl⟩
            go_wp2_with fail
            go_roundw
            case rel => exact ⟨j + 1, c2, g, st, by omega, rfl, by rw [Int.natCast_add]; rfl, HI2, by omega, hB2, HSb, hHO2.out⟩
            case measure => simp [intOf]; omega
        by_cases h5 : op = 5
        · subst h5
          cases st with
          | nil =>
            have hz : R = 30 := by
              have h1 := HI.out
              rw [walkF_bad (by simp)] at h1
              rw [HSh.out, shpF, ← h1, if_neg (by rintro ⟨h2, h3⟩; exact h3 h2.symm)]
            subst hz
            have hcc : wr.cell? ⟨g, 0, none⟩ = some (.int .u8 0) ∧ g < wr.heap.size := by
              obtain ⟨ad, u, e1, _, hgl, hu, hc⟩ := (Reads.of_own HO.out).at_ (k := 0) (by simp)
              injection e1 with e1
              subst e1
              rw [stk_bot] at hu
              injection hu with hu
              subst hu
              exact ⟨hc, hgl⟩
            obtain ⟨cc0, hgl⟩ := hcc
            clear HI
            go_wp2_with fail
            refine (HOp.out _).mono ?_
            rintro e wS ⟨rfl, rfl⟩
            go_wp2_with fail
            go_ret
            exact ⟨rfl, HSb.out⟩
          | cons y st =>
            have hlc : (y :: st).length = st.length + 1 := rfl
            have hy := HB.out y (List.mem_cons_self ..)
            have hcc : wr.cell? ⟨g, st.length + 1, none⟩ = some (.int .u8 (y : Int)) ∧ g < wr.heap.size := by
              obtain ⟨ad, u, e1, _, hgl, hu, hc⟩ := (Reads.of_own HO.out).at_ (k := st.length + 1) (by rw [hlc]; omega)
              injection e1 with e1
              subst e1
              rw [stk_top y st hy] at hu
              injection hu with hu
              subst hu
              rw [Addr.add_lit, Nat.zero_add] at hc
              exact ⟨hc, hgl⟩
            have hfz : wr.frozen? ⟨g, st.length + 1, none⟩ = false := by
              rcases HO.out.2 with ⟨hv, _⟩ | ⟨g', cap, cur, hv, _, hh, _⟩
              · cases hv
              · injection hv with e1
                injection e1 with e1
                injection e1 with e1
                subst e1
                exact Blk.frozen (cs := cur) (t := 5) hh _
            have hge : w.heap.size ≤ g := own_ge HO.out g rfl
            obtain ⟨cc0, hgl⟩ := hcc
            rw [hlc] at HOb hsl ⊢
            have hwl := IntWalk.i64_in ((st.length : Int) + 1) (by omega)
            have k0 : (0 : Int) ≤ (st.length : Int) + 1 := by omega
            have k1 : (st.length : Int) + 1 < (st.length : Int) + 1 + 1 := by omega
            by_cases h4 : y = 4
            · subst h4
              have HI2 : Hid (walkF ((opsL l).drop (j + 1)) (j + 1) (5 :: st) = walkF (opsL l) 0 []) := by rw [Hid, ← HI.out, walkF_else]
              have HO1 := HO.out
              rw [hlc] at HO1
              have HOc := own_setAt (j := st.length + 1) (u := .int .u8 5) HO1 (by rw [u8s, List.length_map, stk_len]; simp)
              rw [stk_set] at HOc
              have HOd := Lib.hid (HOc.alloc (.cells #[.int .u8 5, .int .u64 (a : Int), .int .u64 (b : Int), .slice B m cc] 50))
              have HSd := Lib.hid ((HS.out.setCell (p := ⟨g, st.length + 1, none⟩) (.inr hge) (.int .u8 5)).alloc (.cells #[.int .u8 5, .int .u64 (a : Int), .int .u64 (b : Int), .slice B m cc] 50))
              have hB2 : Hid (∀ x ∈ 5 :: st, x < 256) := fun x hx' => by
                rcases List.mem_cons.1 hx' with rfl | hx'
                · decide
                · exact HB.out x (List.mem_cons_of_mem _ hx')
              clear HI HOc hlc HO1
              go_wp2_with fail
              refine (HOp.out _).mono ?_
              rintro e wS ⟨rfl, rfl⟩
              go_wp2_with fail
              go_roundw
              case rel => exact ⟨j + 1, c2, g, 5 :: st, by omega, rfl, by rw [Int.natCast_add]; rfl, HI2, by simp; omega, hB2, HSd, HOd.out⟩
              case measure => simp [intOf]; omega
            · have hz : R = 30 := by
                have h1 := HI.out
                rw [walkF_bad (by simp; exact h4)] at h1
                rw [HSh.out, shpF, ← h1, if_neg (by rintro ⟨h2, h3⟩; exact h3 h2.symm)]
              subst hz
              have hq : ((y : Int) != 4) = true := bne_iff_ne.2 (by omega)
              clear HI hlc
              go_wp2_with fail
              refine (HOp.out _).mono ?_
              rintro e wS ⟨rfl, rfl⟩
              go_wp2_with fail
              go_ret
              exact ⟨rfl, HSb.out⟩
        · have HI2 : Hid (walkF ((opsL l).drop (j + 1)) (j + 1) st = walkF (opsL l) 0 []) := by rw [Hid, ← HI.out, walkF_plain h24 h5 h11]
          have n5 : ((op : Int) == 5) = false := by simp; omega
          have n11 : ((op : Int) == 11) = false := by simp; omega
          have m5 : ¬ (op : Int) = 5 := by omega
          have m11 : ¬ (op : Int) = 11 := by omega
          clear HI h24 h5 h11
          go_wp2_with fail
          refine (HOp.out _).mono ?_
          rintro e wS ⟨rfl, rfl⟩
          go_wp2_with fail
          go_roundw
          case rel => exact ⟨j + 1, c2, g, st, by omega, rfl, by rw [Int.natCast_add]; rfl, HI2, by omega, HB, HSb, HOb.out⟩
          case measure => simp [intOf]; omega
    · obtain rfl : j = n := by omega
      have hz : R = 30 := by
        have h1 := HI.out
        rw [List.drop_eq_nil_of_le (by rw [opsL, List.length_map, HN.out]; exact Nat.le_refl _), walkF_nil] at h1
        rw [HSh.out, shpF, ← h1, if_neg (by rintro ⟨h2, h3⟩; exact h3 h2.symm)]
      subst hz
      go_wp2_with fail
      go_ret
      exact ⟨rfl, HS.out⟩
end Go.Proofs.Ytfemeendkjcffaa
