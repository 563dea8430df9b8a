/-
  Is: InsA, InsB, InsC, InsD, InsE, InsK.
-/
import Derived.Test.YtfemeendkjcffaaPu
import Derived.Test.YtfemeendkjcffaaGe
import Derived.Test.YtfemeendkjcffaaBoC
import Derived.Test.YtfemeendkjcffaaGbA
import Derived.Test.YtfemeendkjcffaaSaA
import Derived.Test.YtfemeendkjcffaaPv
set_option linter.unusedVariables false
set_option linter.unusedSimpArgs false
/-! instr: which rows of instructions are bodies, as a plain law; a stack of bytes. -/
namespace Go.Proofs.Ytfemeendkjcffaa
open Go.RowKit

/-- Where the body that instructions begin with ends (0: nowhere), from place i on, with these blocks open (the innermost first). -/
def walkF : List Nat → Nat → List Nat → Nat
  | [], _, _ => 0
  | op :: l, i, st =>
    if 2 ≤ op ∧ op ≤ 4 then walkF l (i + 1) (op :: st)
    else if op = 5 then (if st.head? = some 4 then walkF l (i + 1) (5 :: st.tail) else 0)
    else if op = 11 then (if st = [] then i + 1 else walkF l (i + 1) st.tail)
    else walkF l (i + 1) st
theorem walkF_cons (op : Nat) (l : List Nat) (i : Nat) (st : List Nat) : walkF (op :: l) i st = if 2 ≤ op ∧ op ≤ 4 then walkF l (i + 1) (op :: st)
    else if op = 5 then (if st.head? = some 4 then walkF l (i + 1) (5 :: st.tail) else 0)
    else if op = 11 then (if st = [] then i + 1 else walkF l (i + 1) st.tail)
    else walkF l (i + 1) st := rfl
theorem walkF_nil (i : Nat) (st : List Nat) : walkF [] i st = 0 := rfl
theorem walkF_open {op : Nat} {l : List Nat} {i : Nat} {st : List Nat} (h : 2 ≤ op ∧ op ≤ 4) : walkF (op :: l) i st = walkF l (i + 1) (op :: st) := by rw [walkF_cons, if_pos h]
theorem walkF_else {l : List Nat} {i : Nat} {st : List Nat} : walkF (5 :: l) i (4 :: st) = walkF l (i + 1) (5 :: st) := by rw [walkF_cons, if_neg (by decide), if_pos rfl, if_pos (show (4 :: st).head? = some 4 from rfl)]; rfl
theorem walkF_bad {l : List Nat} {i : Nat} {st : List Nat} (h : st.head? ≠ some 4) : walkF (5 :: l) i st = 0 := by rw [walkF_cons, if_neg (by decide), if_pos rfl, if_neg h]
theorem walkF_last {l : List Nat} {i : Nat} : walkF (11 :: l) i [] = i + 1 := by rw [walkF_cons, if_neg (by decide), if_neg (by decide), if_pos rfl, if_pos rfl]
theorem walkF_end {l : List Nat} {i x : Nat} {st : List Nat} : walkF (11 :: l) i (x :: st) = walkF l (i + 1) st := by rw [walkF_cons, if_neg (by decide), if_neg (by decide), if_pos rfl, if_neg (by simp)]; rfl
theorem walkF_plain {op : Nat} {l : List Nat} {i : Nat} {st : List Nat} (h : ¬ (2 ≤ op ∧ op ≤ 4)) (h5 : ¬ op = 5) (h11 : ¬ op = 11) : walkF (op :: l) i st = walkF l (i + 1) st := by rw [walkF_cons, if_neg h, if_neg h5, if_neg h11]
theorem walkF_le (l : List Nat) : ∀ (i : Nat) (st : List Nat), walkF l i st ≤ i + l.length := by
  induction l with
  | nil => intro i st; rw [walkF_nil]; omega
  | cons op l ih =>
    intro i st
    rw [walkF_cons, List.length_cons]
    have h1 := fun st => ih (i + 1) st
    have h2 := h1 (op :: st)
    have h3 := h1 (5 :: st.tail)
    have h4 := h1 st.tail
    have h5 := h1 st
    split
    · omega
    · split
      · split <;> omega
      · split
        · split <;> omega
        · omega
/-- The open blocks as the program keeps them: the outermost first, behind a nought. -/
def stk (st : List Nat) : List UInt8 := UInt8.ofNat 0 :: (st.reverse.map UInt8.ofNat)
theorem stk_len (st : List Nat) : (stk st).length = st.length + 1 := by simp [stk]
theorem stk_push (op : Nat) (st : List Nat) : stk (op :: st) = stk st ++ [UInt8.ofNat op] := by simp [stk]
theorem stk_pop (op : Nat) (st : List Nat) : (u8s (stk (op :: st))).take (st.length + 1) = u8s (stk st) := by
  rw [stk_push, u8s_append]
  exact List.take_left' (by rw [u8s, List.length_map, stk_len])
theorem stk_top (op : Nat) (st : List Nat) (h : op < 256) : (u8s (stk (op :: st)))[st.length + 1]? = some (.int .u8 (op : Int)) := by
  rw [stk_push, u8s_append, List.getElem?_append_right (by rw [u8s, List.length_map, stk_len]; exact Nat.le_refl _), byte_cell op h]
  simp [u8s, stk_len]
theorem stk_bot : (u8s (stk []))[0]? = some (.int .u8 0) := by rw [stk]; rfl
theorem stk_set (op : Nat) (st : List Nat) : (u8s (stk (op :: st))).set (st.length + 1) (.int .u8 5) = u8s (stk (5 :: st)) := by
  rw [stk_push, stk_push, u8s_append, u8s_append, List.set_append_right _ _ (by rw [u8s, List.length_map, stk_len]; exact Nat.le_refl _)]
  simp [u8s, stk_len]
end Go.Proofs.Ytfemeendkjcffaa
/-! instr: Shape of any row. -/
namespace Go.Proofs.Ytfemeendkjcffaa
open Go.RowKit

/-- An instruction, as a record. -/
structure Ig where
  op : Nat
  a : Nat
  b : Nat
  n : Nat
  c : Nat
  A : Option Addr
  L : List Nat
instance : Inhabited Ig := ⟨⟨0, 0, 0, 0, 0, none, []⟩⟩
def Ig.cells (x : Ig) : List Value := (insC (x.op : Int) (x.a : Int) (x.b : Int) x.A x.n x.c).toList
theorem Ig.four (x : Ig) : x.cells.length = 4 := rfl
def igs (l : List Ig) : List Value := l.flatMap Ig.cells
theorem igs_append (l m : List Ig) : igs (l ++ m) = igs l ++ igs m := by simp [igs]
def opsL (l : List Ig) : List Nat := l.map Ig.op
theorem ops_drop (l : List Ig) (j : Nat) (h : j < l.length) : (opsL l).drop j = l[j].op :: (opsL l).drop (j + 1) := by
  rw [opsL, List.drop_eq_getElem_cons (by rw [List.length_map]; exact h), List.getElem_map]
def shpF (l : List Ig) : Nat := if walkF (opsL l) 0 [] = l.length ∧ ¬ l.length = 0 then 0 else 30

set_option maxRecDepth 100000 in
set_option maxHeartbeats 6400000 in
theorem shape_walk (w : World) (n c : Nat) (A : Option Addr) (l : List Ig) (S : Nat → Prop) (HN : Hid (n = l.length)) (hnb : n ≤ 1000) (hop : ∀ x ∈ l, x.op < 256) (hr : Reads w S 4 A n (igs l)) :
    Calls Try.prog 62 #[.slice A n c] w fun e w' => e = .returned (.int .i64 (shpF l : Nat)) ∧ Step (fun _ => False) w w' := by
  have HR := Lib.hid hr
  have HOP := Lib.hid hop
  have g0 : ¬ (20000 : Int) < (n : Int) := by omega
  obtain ⟨R, hR⟩ : ∃ R, R = shpF l := ⟨_, rfl⟩
  rw [← hR]
  have HSh := Lib.hid hR
  clear hr hop hR
  have HO0 : Hid ((w.alloc (.cells #[.int .u8 0] 5)).ownsRow w.heap.size 5 1 (.slice (some ⟨w.heap.size, 0, none⟩) 1 1) 1 (u8s (stk []))) :=
    World.ownsRow_lit (base := w.heap.size) (e := 5) (size := 1) w #[Value.int .u8 0] 1 (Nat.le_refl _) (by decide) rfl
  have HS0 := Lib.hid ((Step.refl (F := fun _ => False)).alloc (w := w) (.cells #[.int .u8 0] 5))
  go_enter Try.func62, Try.ntmps62
  go_wp2_with fail
  go_loopw [3, 12] (fun ov iv wr => ∃ (j c2 : Nat) (g : Nat) (st : List Nat), j ≤ n ∧ ov = .slice (some ⟨g, 0, none⟩) (st.length + 1) c2 ∧ iv = .int .i64 (j : Int) ∧ Hid (walkF ((opsL l).drop j) j st = walkF (opsL l) 0 []) ∧ st.length ≤ j ∧ Hid (∀ x ∈ st, x < 256) ∧ Hid (Step (fun _ => False) w wr) ∧
    Hid (wr.ownsRow w.heap.size 5 1 (.slice (some ⟨g, 0, none⟩) (st.length + 1) c2) (st.length + 1) (u8s (stk st)))) (fun _ iv _ => n + 1 - (intOf iv).toNat)
  case atStart => exact ⟨0, 1, w.heap.size, [], by omega, rfl, rfl, by rw [Hid, List.drop_zero], by simp, (fun x hx => by cases hx), HS0, HO0⟩
  case round =>
    obtain ⟨j, c2, g, st, hj, rfl, rfl, HI, hsl, HB, HS, HO⟩ := hrel
    by_cases hlt : j < n
    · have g1 : (j : Int) < (n : Int) := by omega
      have i0 : (0 : Int) ≤ (j : Int) := by omega
      have hw1 := IntWalk.i64_in ((j : Int) + 1) (by omega)
      have hjl : j < l.length := by rw [← HN.out]; exact hlt
      obtain ⟨bk, off, rfl, _, hbl, hc⟩ := reads_row Ig.cells 4 (by decide) Ig.four (HR.out.step HS.out (fun _ _ => id)) (k := j) hjl
      have hx := HOP.out l[j] (List.getElem_mem hjl)
      have hI := HI.out
      rw [ops_drop l j hjl] at hI
      obtain ⟨x, hxe⟩ : ∃ x, x = l[j] := ⟨_, rfl⟩
      rw [← hxe] at hx hc hI
      clear hxe HI
      obtain ⟨op, a, b, m, cc, B, L⟩ := x
      have c0 := hc 0 _ rfl
      have c1 := hc 1 _ rfl
      have c2' := hc 2 _ rfl
      have c3 := hc 3 _ rfl
      simp only [Nat.add_zero] at c0
      simp only at hx c0 c1 c2' c3 hI
      have HI := Lib.hid hI
      clear hc hI
      have HOp : Hid (∀ w, Calls Try.prog 28 #[.int .u8 (op : Int)] w fun e w' => e = .returned (.bool (decide (2 ≤ op) && decide (op ≤ 4))) ∧ w' = w) := fun w => opens_walk w op hx
      obtain ⟨G, hG⟩ : ∃ G, G = (some ⟨g, 0, none⟩ : Option Addr) := ⟨_, rfl⟩
      by_cases h24 : 2 ≤ op ∧ op ≤ 4
      · have hd : (decide (2 ≤ op) && decide (op ≤ 4)) = true := by simp [h24]
        rw [hd] at HOp
        have HI2 : Hid (walkF ((opsL l).drop (j + 1)) (j + 1) (op :: st) = walkF (opsL l) 0 []) := by rw [Hid, ← HI.out, walkF_open h24]
        have HB2 : Hid (∀ x ∈ op :: st, x < 256) := fun x hx' => by
          rcases List.mem_cons.1 hx' with rfl | hx'
          · exact hx
          · exact HB.out x hx'
        have HBy := Lib.hid (byte_cell op hx)
        have HOa := Lib.hid ((HO.out.alloc (.cells #[.int .u8 (op : Int), .int .u64 (a : Int), .int .u64 (b : Int), .slice B m cc] 50)).alloc (.cells #[.int .u8 (op : Int)] 5))
        have HSa := Lib.hid ((HS.out.alloc (.cells #[.int .u8 (op : Int), .int .u64 (a : Int), .int .u64 (b : Int), .slice B m cc] 50)).alloc (.cells #[.int .u8 (op : Int)] 5))
        have hrn := reads_new (wr.alloc (.cells #[.int .u8 (op : Int), .int .u64 (a : Int), .int .u64 (b : Int), .slice B m cc] 50)) #[Value.int .u8 (op : Int)] 5 1 1 rfl
        rw [show (wr.alloc (.cells #[.int .u8 (op : Int), .int .u64 (a : Int), .int .u64 (b : Int), .slice B m cc] 50)).heap.size = wr.heap.size + 1 by simp] at hrn
        have hone : ∀ u ∈ #[Value.int .u8 (op : Int)].toList, u.oneCell' = true := by simp [Value.oneCell']
        have hm : st.length + 1 + 1 ≤ maxLen := by unfold maxLen; omega
        have hsz := HSa.out.size
        clear hd HI
        go_wp2_with fail
        refine (HOp.out _).mono ?_
        rintro e wS ⟨rfl, rfl⟩
        go_wp2_with (at_builtin; refine wpList_append_src _ rfl _ _ (by rfl) E_u8 (by rfl) HOa.out (by rfl) hrn hone hm (by omega) hsz ?_; intro D9 c9 w9 hown hgrow hat)
        have HS9 := Lib.hid (grow_step HSa.out hgrow HOa.out (Nat.le_refl _))
        have hcs : u8s (stk st) ++ #[Value.int .u8 (op : Int)].toList = u8s (stk (op :: st)) := by rw [stk_push, u8s_append, HBy.out]
        rw [hcs] at hown
        obtain ⟨g9, hg9⟩ : ∃ g9, D9 = some ⟨g9, 0, none⟩ := by
          obtain ⟨g9, cap, hv, _⟩ := hown.form (by omega)
          injection hv with hv
          exact ⟨g9, hv⟩
        subst hg9
        go_roundw
        case rel => exact ⟨j + 1, c9, g9, op :: st, by omega, rfl, by rw [Int.natCast_add]; rfl, HI2, by simp; omega, HB2, HS9, hown⟩
        case measure => simp [intOf]; omega
      · have hd : (decide (2 ≤ op) && decide (op ≤ 4)) = false := by
          cases hq : (decide (2 ≤ op) && decide (op ≤ 4)) with
          | false => rfl
          | true =>
            simp only [Bool.and_eq_true, decide_eq_true_eq] at hq
            exact absurd hq h24
        rw [hd] at HOp
        clear hd
        have HSb := Lib.hid (HS.out.alloc (.cells #[.int .u8 (op : Int), .int .u64 (a : Int), .int .u64 (b : Int), .slice B m cc] 50))
        have HOb := Lib.hid (HO.out.alloc (.cells #[.int .u8 (op : Int), .int .u64 (a : Int), .int .u64 (b : Int), .slice B m cc] 50))
        by_cases h11 : op = 11
        · subst h11
          cases st with
          | nil =>
            have hR2 : Hid (R = if j = n - 1 then 0 else 30) := by
              have h1 := HI.out
              rw [walkF_last] at h1
              rw [Hid, HSh.out, shpF, ← h1, ← HN.out]
              by_cases h2 : j = n - 1
              · rw [if_pos h2, if_pos ⟨by omega, by omega⟩]
              · rw [if_neg h2, if_neg (by rintro ⟨h3, _⟩; omega)]
            have hwn := IntWalk.i64_in ((n : Int) - 1) (by omega)
            have HE : Hid (∀ w b, Calls Try.prog 158 #[.bool b] w fun e w' => e = .returned (.int .i64 (if b then 0 else 30 : Nat)) ∧ w' = w) := fun w b => ended_walk w b
            clear HI
            by_cases h2 : j = n - 1
            · have h3 : ((j : Int) == (n : Int) - 1) = true := by simp; omega
              have hR3 : R = 0 := by rw [hR2.out, if_pos h2]
              clear hR2 h2
              subst hR3
              go_wp2_with fail
              refine (HOp.out _).mono ?_
              rintro e wS ⟨rfl, rfl⟩
              go_wp2_with fail
              refine (HE.out _ _).mono ?_
              rintro e wS ⟨rfl, rfl⟩
              go_wp2_with fail
              go_ret
              exact ⟨rfl, HSb.out⟩
            · have h3 : ((j : Int) == (n : Int) - 1) = false := by simp; omega
              have hR3 : R = 30 := by rw [hR2.out, if_neg h2]
              clear hR2 h2
              subst hR3
              go_wp2_with fail
              refine (HOp.out _).mono ?_
              rintro e wS ⟨rfl, rfl⟩
              go_wp2_with fail
              refine (HE.out _ _).mono ?_
              rintro e wS ⟨rfl, rfl⟩
              go_wp2_with fail
              go_ret
              exact ⟨rfl, HSb.out⟩
          | cons y st =>
            have HI2 : Hid (walkF ((opsL l).drop (j + 1)) (j + 1) st = walkF (opsL l) 0 []) := by rw [Hid, ← HI.out, walkF_end]
            have hlc : (y :: st).length = st.length + 1 := rfl
            rw [hlc] at HOb hsl ⊢
            have hcap := own_cap HOb.out
            have hO2 := own_take HOb.out (k := st.length + 1) (by omega)
            rw [Nat.mul_one, stk_pop] at hO2
            have hwl := IntWalk.i64_in ((st.length : Int) + 1) (by omega)
            have sh := slice_hn E_u8 (some ⟨g, 0, none⟩) (st.length + 1 + 1) c2 .i64 ((st.length : Int) + 1) (st.length + 1) (by omega) (by omega)
            have hB2 : Hid (∀ x ∈ st, x < 256) := fun x hx' => HB.out x (List.mem_cons_of_mem _ hx')
            have hHO2 := Lib.hid hO2
            have hz0 : ((st.length : Int) + 1 == 0) = false := by simp; omega
            clear HI hcap hO2 hlc
            go_wp2_with fail
            refine (HOp.out _).mono ?_
            rintro e wS ⟨rfl, rfl⟩
            go_wp2_with fail
            go_roundw
            case rel => exact ⟨j + 1, c2, g, st, by omega, rfl, by rw [Int.natCast_add]; rfl, HI2, by omega, hB2, HSb, hHO2.out⟩
            case measure => simp [intOf]; omega
        by_cases h5 : op = 5
        · subst h5
          cases st with
          | nil =>
            have hz : R = 30 := by
              have h1 := HI.out
              rw [walkF_bad (by simp)] at h1
              rw [HSh.out, shpF, ← h1, if_neg (by rintro ⟨h2, h3⟩; exact h3 h2.symm)]
            subst hz
            have hcc : wr.cell? ⟨g, 0, none⟩ = some (.int .u8 0) ∧ g < wr.heap.size := by
              obtain ⟨ad, u, e1, _, hgl, hu, hc⟩ := (Reads.of_own HO.out).at_ (k := 0) (by simp)
              injection e1 with e1
              subst e1
              rw [stk_bot] at hu
              injection hu with hu
              subst hu
              exact ⟨hc, hgl⟩
            obtain ⟨cc0, hgl⟩ := hcc
            clear HI
            go_wp2_with fail
            refine (HOp.out _).mono ?_
            rintro e wS ⟨rfl, rfl⟩
            go_wp2_with fail
            go_ret
            exact ⟨rfl, HSb.out⟩
          | cons y st =>
            have hlc : (y :: st).length = st.length + 1 := rfl
            have hy := HB.out y (List.mem_cons_self ..)
            have hcc : wr.cell? ⟨g, st.length + 1, none⟩ = some (.int .u8 (y : Int)) ∧ g < wr.heap.size := by
              obtain ⟨ad, u, e1, _, hgl, hu, hc⟩ := (Reads.of_own HO.out).at_ (k := st.length + 1) (by rw [hlc]; omega)
              injection e1 with e1
              subst e1
              rw [stk_top y st hy] at hu
              injection hu with hu
              subst hu
              rw [Addr.add_lit, Nat.zero_add] at hc
              exact ⟨hc, hgl⟩
            have hfz : wr.frozen? ⟨g, st.length + 1, none⟩ = false := by
              rcases HO.out.2 with ⟨hv, _⟩ | ⟨g', cap, cur, hv, _, hh, _⟩
              · cases hv
              · injection hv with e1
                injection e1 with e1
                injection e1 with e1
                subst e1
                exact Blk.frozen (cs := cur) (t := 5) hh _
            have hge : w.heap.size ≤ g := own_ge HO.out g rfl
            obtain ⟨cc0, hgl⟩ := hcc
            rw [hlc] at HOb hsl ⊢
            have hwl := IntWalk.i64_in ((st.length : Int) + 1) (by omega)
            have k0 : (0 : Int) ≤ (st.length : Int) + 1 := by omega
            have k1 : (st.length : Int) + 1 < (st.length : Int) + 1 + 1 := by omega
            by_cases h4 : y = 4
            · subst h4
              have HI2 : Hid (walkF ((opsL l).drop (j + 1)) (j + 1) (5 :: st) = walkF (opsL l) 0 []) := by rw [Hid, ← HI.out, walkF_else]
              have HO1 := HO.out
              rw [hlc] at HO1
              have HOc := own_setAt (j := st.length + 1) (u := .int .u8 5) HO1 (by rw [u8s, List.length_map, stk_len]; simp)
              rw [stk_set] at HOc
              have HOd := Lib.hid (HOc.alloc (.cells #[.int .u8 5, .int .u64 (a : Int), .int .u64 (b : Int), .slice B m cc] 50))
              have HSd := Lib.hid ((HS.out.setCell (p := ⟨g, st.length + 1, none⟩) (.inr hge) (.int .u8 5)).alloc (.cells #[.int .u8 5, .int .u64 (a : Int), .int .u64 (b : Int), .slice B m cc] 50))
              have hB2 : Hid (∀ x ∈ 5 :: st, x < 256) := fun x hx' => by
                rcases List.mem_cons.1 hx' with rfl | hx'
                · decide
                · exact HB.out x (List.mem_cons_of_mem _ hx')
              clear HI HOc hlc HO1
              go_wp2_with fail
              refine (HOp.out _).mono ?_
              rintro e wS ⟨rfl, rfl⟩
              go_wp2_with fail
              go_roundw
              case rel => exact ⟨j + 1, c2, g, 5 :: st, by omega, rfl, by rw [Int.natCast_add]; rfl, HI2, by simp; omega, hB2, HSd, HOd.out⟩
              case measure => simp [intOf]; omega
            · have hz : R = 30 := by
                have h1 := HI.out
                rw [walkF_bad (by simp; exact h4)] at h1
                rw [HSh.out, shpF, ← h1, if_neg (by rintro ⟨h2, h3⟩; exact h3 h2.symm)]
              subst hz
              have hq : ((y : Int) != 4) = true := bne_iff_ne.2 (by omega)
              clear HI hlc
              go_wp2_with fail
              refine (HOp.out _).mono ?_
              rintro e wS ⟨rfl, rfl⟩
              go_wp2_with fail
              go_ret
              exact ⟨rfl, HSb.out⟩
        · have HI2 : Hid (walkF ((opsL l).drop (j + 1)) (j + 1) st = walkF (opsL l) 0 []) := by rw [Hid, ← HI.out, walkF_plain h24 h5 h11]
          have n5 : ((op : Int) == 5) = false := by simp; omega
          have n11 : ((op : Int) == 11) = false := by simp; omega
          have m5 : ¬ (op : Int) = 5 := by omega
          have m11 : ¬ (op : Int) = 11 := by omega
          clear HI h24 h5 h11
          go_wp2_with fail
          refine (HOp.out _).mono ?_
          rintro e wS ⟨rfl, rfl⟩
          go_wp2_with fail
          go_roundw
          case rel => exact ⟨j + 1, c2, g, st, by omega, rfl, by rw [Int.natCast_add]; rfl, HI2, by omega, HB, HSb, HOb.out⟩
          case measure => simp [intOf]; omega
    · obtain rfl : j = n := by omega
      have hz : R = 30 := by
        have h1 := HI.out
        rw [List.drop_eq_nil_of_le (by rw [opsL, List.length_map, HN.out]; exact Nat.le_refl _), walkF_nil] at h1
        rw [HSh.out, shpF, ← h1, if_neg (by rintro ⟨h2, h3⟩; exact h3 h2.symm)]
      subst hz
      go_wp2_with fail
      go_ret
      exact ⟨rfl, HS.out⟩
end Go.Proofs.Ytfemeendkjcffaa
/-! creelref07: SameAll of alike rows. -/
namespace Go.Proofs.Ytfemeendkjcffaa
open Go.RowKit

/-- Two instructions alike, their labels read. -/
def Alike (w : World) (S1 S2 : Nat → Prop) (x y : Ig) : Prop := y.op = x.op ∧ y.a = x.a ∧ y.b = x.b ∧ y.L = x.L ∧ x.n = x.L.length ∧ y.n = x.L.length ∧ x.L.length ≤ 100000 ∧ Reads w S1 1 x.A x.L.length (u32s x.L) ∧ Reads w S2 1 y.A x.L.length (u32s x.L)

set_option maxRecDepth 100000 in
set_option maxHeartbeats 6400000 in
theorem sameall_ok (w : World) (n c d : Nat) (A B : Option Addr) (l k : List Ig) (S T S1 S2 : Nat → Prop) (HN : Hid (n = l.length)) (HK : Hid (n = k.length)) (hnb : n ≤ 1000) (hr : Reads w S 4 A n (igs l)) (ht : Reads w T 4 B n (igs k))
    (hs : ∀ (i : Nat) (x y : Ig), l[i]? = some x → k[i]? = some y → Alike w S1 S2 x y) :
    Calls Try.prog 64 #[.slice A n c, .slice B n d] w fun e w' => e = .returned (.bool true) ∧ Step (fun _ => False) w w' := by
  have HR := Lib.hid hr
  have HT := Lib.hid ht
  have HS := Lib.hid hs
  have n4 : ((n : Int) != (n : Int)) = false := by simp
  clear hr ht hs
  go_enter Try.func64, Try.ntmps64
  go_wp2_with fail
  go_loopw [5] (fun iv wr => ∃ (i : Nat), i ≤ n ∧ iv = .int .i64 (i : Int) ∧ Hid (Step (fun _ => False) w wr)) (fun iv _ => n + 1 - (intOf iv).toNat)
  case atStart => exact ⟨0, by omega, rfl, Step.refl⟩
  case round =>
    obtain ⟨i, hi, rfl, HSi⟩ := hrel
    by_cases hlt : i < n
    · have g1 : (i : Int) < (n : Int) := by omega
      have i0 : (0 : Int) ≤ (i : Int) := by omega
      have hw1 := IntWalk.i64_in ((i : Int) + 1) (by omega)
      have hil : i < l.length := by rw [← HN.out]; exact hlt
      have hik : i < k.length := by rw [← HK.out]; exact hlt
      obtain ⟨bk, off, rfl, _, hbl, hc⟩ := reads_row Ig.cells 4 (by decide) Ig.four (HR.out.step HSi.out (fun _ _ => id)) (k := i) hil
      obtain ⟨bz, ofz, rfl, _, hbz, hcz⟩ := reads_row Ig.cells 4 (by decide) Ig.four (HT.out.step HSi.out (fun _ _ => id)) (k := i) hik
      have hA := HS.out i _ _ (List.getElem?_eq_getElem hil) (List.getElem?_eq_getElem hik)
      obtain ⟨x, hxe⟩ : ∃ x, x = l[i] := ⟨_, rfl⟩
      obtain ⟨y, hye⟩ : ∃ y, y = k[i] := ⟨_, rfl⟩
      rw [← hxe] at hA hc
      rw [← hye] at hA hcz
      clear hxe hye
      obtain ⟨op, a, b, m, cc, A1, L⟩ := x
      obtain ⟨op2, a2, b2, m2, cc2, A2, L2⟩ := y
      obtain ⟨e1, e2, e3, e4, e5, e6, hL, hr1, hr2⟩ := hA
      simp only at e1 e2 e3 e4 e5 e6 hL hr1 hr2
      subst e1 e2 e3 e4 e5 e6
      have hLm : L2.length ≤ 1000000 := by omega
      have HSm : Hid (∀ w', Step (fun _ => False) w w' → Calls Try.prog 39 #[.agg (insC (op2 : Int) (a2 : Int) (b2 : Int) A1 L2.length cc), .agg (insC (op2 : Int) (a2 : Int) (b2 : Int) A2 L2.length cc2)] w' fun e w'' => e = .returned (.bool true) ∧ Step (fun _ => False) w' w'') := fun w' h' => by
        have h := rsame_walk w' op2 a2 b2 cc op2 a2 b2 cc2 A1 A2 L2 L2 S1 S2 (hr1.step h' (fun _ _ => id)) (hr2.step h' (fun _ _ => id)) hLm
        rw [same_yes] at h
        exact h
      simp only [insC] at HSm
      have c0 := hc 0 _ rfl
      have c1 := hc 1 _ rfl
      have c2 := hc 2 _ rfl
      have c3 := hc 3 _ rfl
      have e0 := hcz 0 _ rfl
      have e1 := hcz 1 _ rfl
      have e2 := hcz 2 _ rfl
      have e3 := hcz 3 _ rfl
      simp only [Nat.add_zero] at c0 e0
      simp only at c0 c1 c2 c3 e0 e1 e2 e3
      obtain ⟨q, hq⟩ : ∃ q, q = L2.length := ⟨_, rfl⟩
      rw [← hq] at HSm c3 e3
      have d0 := cls_cell (F := fun _ => False) (w0 := wr) c0 id
      have d1 := cls_cell (F := fun _ => False) (w0 := wr) c1 id
      have d2 := cls_cell (F := fun _ => False) (w0 := wr) c2 id
      have d3 := cls_cell (F := fun _ => False) (w0 := wr) c3 id
      have f0 := cls_cell (F := fun _ => False) (w0 := wr) e0 id
      have f1 := cls_cell (F := fun _ => False) (w0 := wr) e1 id
      have f2 := cls_cell (F := fun _ => False) (w0 := wr) e2 id
      have f3 := cls_cell (F := fun _ => False) (w0 := wr) e3 id
      clear hc hcz c0 c1 c2 c3 e0 e1 e2 e3 hr1 hr2 hL hLm hq
      go_wp2_with fail
      refine Mix.wp_region_mix [8] [8] (Step (fun _ => False) wr) (by kernel_rfl) (by kernel_rfl) Step.refl.drew (fun hcls => ?_)
      refine Mix.wpL_reads 8 (by rfl) ?_
      simp only [List.take_succ_cons, List.drop_succ_cons, List.take_zero, List.drop_zero]
      repeat (go_big_quiet_step (fail))
      refine wpQuiet_nil ?_
      refine Mix.wpL_op (by rfl) (fun K hK => ?_)
      go_simp
      refine (HSm.out _ (HSi.out.trans Step.refl.drew)).mono ?_
      rintro e wd ⟨rfl, hSd⟩
      have HSd := Lib.hid (Step.refl.drew.trans hSd)
      refine hK _ _ (fun hlt => Mix.cl HSd.out) ?_
      clear hK K hSd
      refine Mix.wpL_reads 1 (by rfl) ?_
      simp only [List.take_succ_cons, List.drop_succ_cons, List.take_zero, List.drop_zero]
      repeat (go_big_quiet_step (fail))
      refine wpQuiet_nil ?_
      refine Mix.wpL_end ?_
      go_wp2_with fail
      go_roundw
      case rel => exact ⟨i + 1, by omega, by rw [Int.natCast_add]; rfl, HSi.out.trans HSd.out⟩
      case measure => simp [intOf]; omega
    · obtain rfl : i = n := by omega
      go_wp2_with fail
      go_ret
      exact ⟨rfl, HSi.out⟩
end Go.Proofs.Ytfemeendkjcffaa
/-! instr: a row of instructions, what is wrong with it first, its bytes; PutBody. -/
namespace Go.Proofs.Ytfemeendkjcffaa
open Go.RowKit

theorem igs_one (l : List Ig) : ∀ u ∈ igs l, u.oneCell' = true := by
  intro u hu
  obtain ⟨f, _, hf⟩ := List.mem_flatMap.1 hu
  simp [Ig.cells, insC] at hf
  rcases hf with rfl | rfl | rfl | rfl <;> rfl
/-- What is wrong with it. -/
def Ig.err (x : Ig) : Nat := rgtF x.op x.a x.b x.n
def Ig.wf (x : Ig) : Prop := x.op < 256 ∧ x.a < 18446744073709551616
def Ig.put (x : Ig) : List UInt8 := putL x.op x.a x.b x.L
theorem igput_len (op a b : Nat) (L : List Nat) (h : L.length ≤ 100) : (putL op a b L).length ≤ 1031 := by
  have h1 := num_len a
  have h2 := num_len b
  have h3 := num_len L.length
  have h4 := labL_len L
  have h5 : (intF (s32 a)).length ≤ 10 := intL_len 10 _
  have h6 : (intF (s64 a)).length ≤ 10 := intL_len 10 _
  rw [putL, List.length_cons, putT]
  repeat' split
  all_goals (try simp only [List.length_append, List.length_cons, List.length_nil])
  all_goals omega
/-- The first error. -/
def errI : List Ig → Nat
  | [] => 0
  | x :: l => if x.err = 0 then errI l else x.err
theorem errI_nil : errI [] = 0 := rfl
theorem errI_cons (x : Ig) (l : List Ig) : errI (x :: l) = if x.err = 0 then errI l else x.err := rfl
theorem errI_snoc (l : List Ig) (x : Ig) : errI (l ++ [x]) = if errI l = 0 then x.err else errI l := by
  induction l with
  | nil =>
    rw [List.nil_append, errI_cons, errI_nil, if_pos rfl]
    by_cases h : x.err = 0
    · rw [if_pos h, h]
    · rw [if_neg h]
  | cons y l ih =>
    rw [List.cons_append, errI_cons, errI_cons]
    by_cases h : y.err = 0
    · simp only [h, if_true]
      exact ih
    · simp only [h, if_false]
theorem errI_take (l : List Ig) (j : Nat) (h : j < l.length) : errI (l.take (j + 1)) = if errI (l.take j) = 0 then l[j].err else errI (l.take j) := by
  rw [List.take_succ_eq_append_getElem h, errI_snoc]
theorem errI_app (l m : List Ig) (h : ¬ errI l = 0) : errI (l ++ m) = errI l := by
  induction l with
  | nil => exact absurd rfl h
  | cons y l ih =>
    rw [List.cons_append, errI_cons, errI_cons]
    rw [errI_cons] at h
    by_cases hy : y.err = 0
    · simp only [hy, if_true] at h ⊢
      exact ih h
    · simp only [hy, if_false]
theorem errI_of_take (l : List Ig) (j : Nat) (h : ¬ errI (l.take j) = 0) : errI l = errI (l.take j) := by
  have := errI_app (l.take j) (l.drop j) h
  rwa [List.take_append_drop] at this
theorem errI_all (l : List Ig) (h : errI l = 0) : ∀ x ∈ l, x.err = 0 := by
  induction l with
  | nil => intro x hx; cases hx
  | cons y l ih =>
    rw [errI_cons] at h
    by_cases hy : y.err = 0
    · rw [if_pos hy] at h
      intro x hx
      rcases List.mem_cons.1 hx with rfl | hx
      · exact hy
      · exact ih h x hx
    · rw [if_neg hy] at h
      exact absurd h hy
def putsI (U : List UInt8) (l : List Ig) (j : Nat) : List UInt8 := U ++ (l.take j).flatMap Ig.put
theorem putsI_zero (U : List UInt8) (l : List Ig) : putsI U l 0 = U := by simp [putsI]
theorem putsI_succ (U : List UInt8) (l : List Ig) (j : Nat) (h : j < l.length) : putsI U l (j + 1) = putsI U l j ++ l[j].put := by
  rw [putsI, List.take_succ_eq_append_getElem h, List.flatMap_append, putsI]
  simp
theorem putsI_all (U : List UInt8) (l : List Ig) : putsI U l l.length = U ++ l.flatMap Ig.put := by rw [putsI, List.take_length]
theorem putsI_len (U : List UInt8) (l : List Ig) (j : Nat) (hj : j ≤ l.length) (hs : ∀ x ∈ l.take j, x.L.length ≤ 100) : (putsI U l j).length ≤ U.length + 1031 * j := by
  induction j with
  | zero => rw [putsI_zero]; omega
  | succ j ih =>
    have hjl : j < l.length := by omega
    rw [putsI_succ U l j hjl, List.length_append]
    rw [List.take_succ_eq_append_getElem hjl] at hs
    have h1 := ih (by omega) (fun x hx => hs x (List.mem_append_left _ hx))
    have h2 := igput_len l[j].op l[j].a l[j].b l[j].L (hs _ (List.mem_append_right _ (by simp)))
    rw [show l[j].put = putL l[j].op l[j].a l[j].b l[j].L from rfl]
    omega

/-- The error of a body. -/
def codF (l : List Ig) : Nat := if shpF l = 0 then errI l else shpF l
theorem shp_or (l : List Ig) : shpF l = 0 ∨ shpF l = 30 := by
  rw [shpF]
  split
  · exact .inl rfl
  · exact .inr rfl

set_option maxRecDepth 100000 in
set_option maxHeartbeats 6400000 in
theorem pbody_bad (w : World) (n c : Nat) (A : Option Addr) (l : List Ig) (S : Nat → Prop) (HN : Hid (n = l.length)) (hnb : n ≤ 1000) (hop : ∀ x ∈ l, x.op < 256) (hr : Reads w S 4 A n (igs l)) (hs : ¬ shpF l = 0) :
    Calls Try.prog 61 #[.slice A n c] w fun e w' => e = .returned (.tuple #[.slice none 0 0, .int .i64 (shpF l : Nat)]) ∧ Step (fun _ => False) w w' := by
  have HG := Lib.hid (shape_walk w n c A l S HN hnb hop hr)
  obtain ⟨r, hr'⟩ : ∃ r : Int, r = (shpF l : Nat) := ⟨_, rfl⟩
  have hne : ¬ r = 0 := by omega
  have hnb2 : (r != 0) = true := bne_iff_ne.2 hne
  rw [← hr'] at HG ⊢
  clear hr' hs hr hop
  go_enter Try.func61, Try.ntmps61
  go_wp2_with fail
  refine HG.out.mono ?_
  rintro e w1 ⟨rfl, hS⟩
  go_wp2_with fail
  go_ret2
  exact ⟨rfl, hS⟩

set_option maxRecDepth 100000 in
set_option maxHeartbeats 6400000 in
theorem pbody_walk (w : World) (n c : Nat) (A : Option Addr) (l : List Ig) (S : Nat → Prop) (HN : Hid (n = l.length)) (hnb : n ≤ 1000) (hwf : ∀ x ∈ l, x.wf) (hsm : ∀ x ∈ l, x.L.length ≤ 100) (hin : ∀ x ∈ l, x.L.length = x.n ∧ (∀ y ∈ x.L, y < 4294967296) ∧ Reads w S 1 x.A x.n (u32s x.L)) (hr : Reads w S 4 A n (igs l)) (hs : shpF l = 0) :
    Calls Try.prog 61 #[.slice A n c] w fun e w' => Step (fun _ => False) w w' ∧ ((¬ errI l = 0 ∧ e = .returned (.tuple #[.slice none 0 0, .int .i64 (errI l : Nat)])) ∨
      (errI l = 0 ∧ ∃ D c', e = .returned (.tuple #[.slice D (putsI [] l n).length c', .int .i64 0]) ∧ w'.ownsRow w.heap.size 5 1 (.slice D (putsI [] l n).length c') (putsI [] l n).length (u8s (putsI [] l n)))) := by
  have HSh := shape_walk w n c A l S HN hnb (fun x hx => (hwf x hx).1) hr
  rw [hs] at HSh
  rw [show (((0 : Nat) : Int)) = 0 from rfl] at HSh
  have HSh := Lib.hid HSh
  have HR2 := Lib.hid hr
  have HWF := Lib.hid hwf
  have HSM := Lib.hid hsm
  have HIN := Lib.hid hin
  clear hr hwf hsm hin hs
  obtain ⟨U, hU⟩ : ∃ U : List UInt8, U = [] := ⟨_, rfl⟩
  have hU0 : U.length = 0 := by rw [hU]; rfl
  have HU := Lib.hid hU
  rw [← hU]
  have HO5 : Hid (∀ w5 : World, w5.ownsRow w.heap.size 5 1 (.slice none (putsI U l 0).length 0) (putsI U l 0).length (u8s (putsI U l 0))) := fun w5 => by
    rw [putsI_zero, hU]; exact World.ownsRow_nil _ _ _ _
  have hz5 : (0 : Nat) = (putsI U l 0).length := by rw [putsI_zero, hU]; rfl
  have HZ5 := Lib.hid hz5
  clear hU hz5
  go_enter Try.func61, Try.ntmps61
  go_wp2_with fail
  refine HSh.out.mono ?_
  rintro e w5 ⟨rfl, hS5⟩
  have HS5 := Lib.hid hS5
  clear hS5
  go_wp2_with fail
  go_loopw [5, 17] (fun ov iv wr => ∃ (j c2 : Nat) (D2 : Option Addr), j ≤ n ∧ ov = .slice D2 (putsI U l j).length c2 ∧ iv = .int .i64 (j : Int) ∧ Hid (errI (l.take j) = 0) ∧ Hid (Step (fun _ => False) w wr) ∧
    Hid (wr.ownsRow w.heap.size 5 1 (.slice D2 (putsI U l j).length c2) (putsI U l j).length (u8s (putsI U l j)))) (fun _ iv _ => n + 1 - (intOf iv).toNat)
  case atStart => exact ⟨0, 0, none, by omega, by rw [← HZ5.out], rfl, rfl, HS5, HO5.out _⟩
  case round =>
    obtain ⟨j, c2, D2, hj, rfl, rfl, HE, HS, HOj⟩ := hrel
    have hpl := putsI_len U l j (by rw [← HN.out]; exact hj) (fun x hx => HSM.out x (List.mem_of_mem_take hx))
    by_cases hlt : j < n
    · have g1 : (j : Int) < (n : Int) := by omega
      have i0 : (0 : Int) ≤ (j : Int) := by omega
      have hw1 := IntWalk.i64_in ((j : Int) + 1) (by omega)
      have hjl : j < l.length := by rw [← HN.out]; exact hlt
      obtain ⟨bk, off, rfl, _, hbl, hc⟩ := reads_row Ig.cells 4 (by decide) Ig.four (HR2.out.step HS.out (fun _ _ => id)) (k := j) hjl
      have hx := HWF.out l[j] (List.getElem_mem hjl)
      have hds := HSM.out l[j] (List.getElem_mem hjl)
      have hin := HIN.out l[j] (List.getElem_mem hjl)
      have HP := Lib.hid (putsI_succ U l j hjl)
      have HET := Lib.hid (errI_take l j hjl)
      have HEA := Lib.hid (errI_of_take l (j + 1))
      obtain ⟨x, hxe⟩ : ∃ x, x = l[j] := ⟨_, rfl⟩
      rw [← hxe] at hx hds hin hc HP HET
      clear hxe
      obtain ⟨op, a, b, m, cc, B, L⟩ := x
      have c0 := hc 0 _ rfl
      have c1 := hc 1 _ rfl
      have c2' := hc 2 _ rfl
      have c3 := hc 3 _ rfl
      simp only [Nat.add_zero] at c0
      obtain ⟨h1, h2⟩ := hx
      simp only [Ig.err, Ig.put] at HP HET
      simp only at h1 h2 hds hin c0 c1 c2' c3
      obtain ⟨hin1, hin2, hin3⟩ := hin
      have HLB := Lib.hid hin2
      subst hin1
      have HRI := Lib.hid hin3
      clear hin2 hin3
      clear hc
      by_cases hz : rgtF op a b L.length = 0
      · have HG := Lib.hid (fun w' (h' : Step (fun _ => False) w w') => iput_all w' op a b cc B L S (HRI.out.step h' (fun _ _ => id)) h1 h2 HLB.out hz)
        have hgl := igput_len op a b L hds
        have HE2 : Hid (errI (l.take (j + 1)) = 0) := by rw [Hid, HET.out, if_pos HE.out]; exact hz
        obtain ⟨V, hV⟩ : ∃ V, V = putL op a b L := ⟨_, rfl⟩
        rw [← hV] at HG hgl HP
        obtain ⟨q, hq⟩ : ∃ q, q = L.length := ⟨_, rfl⟩
        rw [← hq] at HG c3 hds
        simp only [insC] at HG
        clear hV hz HET HEA hq HRI
        go_wp2_with fail
        refine (HG.out _ (HS.out.alloc _)).mono ?_
        rintro e w8 ⟨D8, c8, rfl, hown, hS8⟩
        have HR8 := Lib.hid (Reads.of_own hown)
        have HO8 := Lib.hid (own_step (HOj.out.alloc (.cells #[.int .u8 (op : Int), .int .u64 (a : Int), .int .u64 (b : Int), .slice B q cc] 50)) hS8 (fun _ _ => id))
        have HS8 := Lib.hid ((HS.out.alloc (.cells #[.int .u8 (op : Int), .int .u64 (a : Int), .int .u64 (b : Int), .slice B q cc] 50)).trans hS8)
        clear hS8 hown
        have hone : ∀ u ∈ u8s V, u.oneCell' = true := u8s_one V
        have hm : (putsI U l j).length + V.length ≤ maxLen := by unfold maxLen; omega
        have hsz := HS8.out.size
        go_wp2_with (at_builtin; refine wpList_append_src _ rfl _ _ (by rfl) E_u8 (by rfl) HO8.out (by rfl) HR8.out hone hm (by omega) hsz ?_; intro D9 c9 w9 hown hgrow hat)
        have HS9 := Lib.hid (grow_step HS8.out hgrow HO8.out (Nat.le_refl _))
        have hcs : u8s (putsI U l j) ++ u8s V = u8s (putsI U l (j + 1)) := by rw [HP.out, u8s_append]
        have hln : (putsI U l j).length + V.length = (putsI U l (j + 1)).length := by rw [HP.out, List.length_append]
        rw [hcs, hln] at hown
        rw [hln]
        go_roundw
        case rel => exact ⟨j + 1, c9, D9, by omega, rfl, by rw [Int.natCast_add]; rfl, HE2, HS9, hown⟩
        case measure => simp [intOf]; omega
      · have HG := Lib.hid (fun w => iput_err w op a b L.length cc B h1 hz)
        have HE2 : Hid (errI l = rgtF op a b L.length) := by
          have h5 : errI (l.take (j + 1)) = rgtF op a b L.length := by rw [HET.out, if_pos HE.out]
          rw [Hid, HEA.out (by rw [h5]; exact hz), h5]
        obtain ⟨r, hr⟩ : ∃ r : Int, r = (rgtF op a b L.length : Nat) := ⟨_, rfl⟩
        have hne : ¬ r = 0 := by omega
        have hnb : (r != 0) = true := bne_iff_ne.2 hne
        rw [← hr] at HG
        simp only [insC] at HG
        have HRR : Hid (r = (errI l : Nat) ∧ ¬ errI l = 0) := ⟨by rw [HE2.out]; exact hr, by rw [HE2.out]; exact hz⟩
        clear hr hz HET HEA HE2 HP
        obtain ⟨q, hq⟩ : ∃ q, q = L.length := ⟨_, rfl⟩
        rw [← hq] at HG c3 hds
        clear hq HRI
        go_wp2_with fail
        refine (HG.out _).mono ?_
        rintro e w8 ⟨rfl, hS8⟩
        go_wp2_with fail
        go_ret2
        exact ⟨(HS.out.alloc _).trans hS8, .inl ⟨HRR.out.2, by rw [← HRR.out.1]; rfl⟩⟩
    · obtain rfl : j = n := by omega
      have HE2 : Hid (errI l = 0) := by
        have h5 := HE.out
        rw [show l.take j = l by rw [HN.out]; exact List.take_length] at h5
        exact h5
      go_wp2_with fail
      refine bodyPost_ret (v := .tuple #[.slice D2 (putsI U l j).length c2, .int .i64 0]) (by simp [results, Try.results61, go_sem]) rfl ?_
      exact ⟨HS.out, .inr ⟨HE2.out, D2, c2, rfl, HOj.out⟩⟩
end Go.Proofs.Ytfemeendkjcffaa
/-! creelref07: Walk and Shape of any row. -/
namespace Go.Proofs.Ytfemeendkjcffaa
open Go.RowKit

/-- An open block's letter. -/
def ltr (op : Nat) : Nat := if op = 4 then 105 else if op = 5 then 101 else 98
theorem ltr_lt (op : Nat) : ltr op < 256 := by
  rw [ltr]
  split
  · decide
  · split <;> decide
theorem ltr_if (op : Nat) : ltr op = 105 ↔ op = 4 := by
  rw [ltr]
  constructor
  · intro h
    split at h
    · assumption
    · split at h <;> exact absurd h (by decide)
  · intro h
    rw [if_pos h]
def opn (st : List Nat) : List UInt8 := st.reverse.map fun op => UInt8.ofNat (ltr op)
theorem opn_len (st : List Nat) : (opn st).length = st.length := by simp [opn]
theorem opn_nil : opn [] = [] := rfl
theorem opn_cons (op : Nat) (st : List Nat) : opn (op :: st) = opn st ++ [UInt8.ofNat (ltr op)] := by simp [opn]
theorem opn_take (op : Nat) (st : List Nat) : (opn (op :: st)).take st.length = opn st := by
  rw [opn_cons]
  exact List.take_left' (opn_len st)
theorem opn_top (op : Nat) (st : List Nat) (h : st.length < (opn (op :: st)).length) : ((opn (op :: st))[st.length].toNat : Int) = (ltr op : Int) := by
  have h1 : (opn (op :: st))[st.length]? = some (UInt8.ofNat (ltr op)) := by
    rw [opn_cons, List.getElem?_append_right (by rw [opn_len]; exact Nat.le_refl _), opn_len]
    simp
  rw [List.getElem?_eq_getElem h] at h1
  injection h1 with h1
  rw [h1]
  have := ltr_lt op
  simp
  omega
theorem opn_add (op : Nat) (st : List Nat) (x : UInt8) (h : UInt8.ofNat (ltr op) = x) : str (opn st) ++ (⟨#[x]⟩ : ByteArray) = str (opn (op :: st)) := by
  rw [opn_cons, h]
  exact str_append (opn st) [x]

set_option maxRecDepth 100000 in
set_option maxHeartbeats 6400000 in
theorem rwalk_walk (w : World) (n c : Nat) (A : Option Addr) (l : List Ig) (S : Nat → Prop) (HN : Hid (n = l.length)) (hnb : n ≤ 1000) (hr : Reads w S 4 A n (igs l)) :
    Calls Try.prog 157 #[.slice A n c] w fun e w' => (∃ z : Int, e = .returned (.tuple #[.int .i64 (walkF (opsL l) 0 [] : Nat), .int .i64 z])) ∧ Step (fun _ => False) w w' := by
  have HR := Lib.hid hr
  obtain ⟨R, hR⟩ : ∃ R, R = walkF (opsL l) 0 [] := ⟨_, rfl⟩
  rw [← hR]
  have HSh := Lib.hid hR
  clear hr hR
  go_enter Try.func157, Try.ntmps157
  go_wp2_with fail
  go_loopw [4, 5] (fun ov iv wr => ∃ (j : Nat) (st : List Nat), j ≤ n ∧ ov = .string (str (opn st)) ∧ iv = .int .i64 (j : Int) ∧ Hid (walkF ((opsL l).drop j) j st = R) ∧ st.length ≤ j ∧ Hid (Step (fun _ => False) w wr)) (fun _ iv _ => n + 1 - (intOf iv).toNat)
  case atStart => exact ⟨0, [], by omega, rfl, rfl, by rw [Hid, List.drop_zero, HSh.out], by simp, Step.refl⟩
  case round =>
    obtain ⟨j, st, hj, rfl, rfl, HI, hsl, HS⟩ := hrel
    by_cases hlt : j < n
    · have g1 : (j : Int) < (n : Int) := by omega
      have i0 : (0 : Int) ≤ (j : Int) := by omega
      have hw1 := IntWalk.i64_in ((j : Int) + 1) (by omega)
      have hjl : j < l.length := by rw [← HN.out]; exact hlt
      obtain ⟨bk, off, rfl, _, hbl, hc⟩ := reads_row Ig.cells 4 (by decide) Ig.four (HR.out.step HS.out (fun _ _ => id)) (k := j) hjl
      have hI := HI.out
      rw [ops_drop l j hjl] at hI
      obtain ⟨x, hxe⟩ : ∃ x, x = l[j] := ⟨_, rfl⟩
      rw [← hxe] at hc hI
      clear hxe HI
      obtain ⟨op, a, b, m, cc, B, L⟩ := x
      have c0 := hc 0 _ rfl
      simp only [Nat.add_zero] at c0
      simp only at c0 hI
      have HI := Lib.hid hI
      clear hc hI
      have hsz := str_size (opn st)
      rw [opn_len] at hsz
      by_cases h23 : op = 2 ∨ op = 3
      · have HI2 : Hid (walkF ((opsL l).drop (j + 1)) (j + 1) (op :: st) = R) := by rw [Hid, ← HI.out, walkF_open (by omega)]
        have hap := opn_add op st 98 (by rw [ltr, if_neg (by omega), if_neg (by omega)]; rfl)
        clear HI
        rcases h23 with rfl | rfl
        · go_wp2_with fail
          go_roundw
          case rel => exact ⟨j + 1, 2 :: st, by omega, rfl, by rw [Int.natCast_add]; rfl, HI2, by simp; omega, HS⟩
          case measure => simp [intOf]; omega
        · go_wp2_with fail
          go_roundw
          case rel => exact ⟨j + 1, 3 :: st, by omega, rfl, by rw [Int.natCast_add]; rfl, HI2, by simp; omega, HS⟩
          case measure => simp [intOf]; omega
      have m2 : ¬ (op : Int) = 2 := by omega
      have m3 : ¬ (op : Int) = 3 := by omega
      have n2 : ((op : Int) == 2) = false := by simp; omega
      have n3 : ((op : Int) == 3) = false := by simp; omega
      by_cases h4 : op = 4
      · subst h4
        have HI2 : Hid (walkF ((opsL l).drop (j + 1)) (j + 1) (4 :: st) = R) := by rw [Hid, ← HI.out, walkF_open (by omega)]
        have hap := opn_add 4 st 105 rfl
        clear HI
        go_wp2_with fail
        go_roundw
        case rel => exact ⟨j + 1, 4 :: st, by omega, rfl, by rw [Int.natCast_add]; rfl, HI2, by simp; omega, HS⟩
        case measure => simp [intOf]; omega
      have m4 : ¬ (op : Int) = 4 := by omega
      have n4 : ((op : Int) == 4) = false := by simp; omega
      by_cases h5 : op = 5
      · subst h5
        cases st with
        | nil =>
          have hR0 : R = 0 := by rw [← HI.out, walkF_bad (by simp)]
          subst hR0
          rw [opn_nil]
          have hem : (str []).toList.isEmpty = true := by rw [str_toList]; rfl
          clear HI
          go_wp2_with fail
          go_ret2
          exact ⟨⟨_, rfl⟩, HS.out⟩
        | cons y st =>
          have hlc : (y :: st).length = st.length + 1 := rfl
          rw [hlc] at hsl hsz
          have hne : (str (opn (y :: st))).toList.isEmpty = false := by
            rw [str_toList, opn_cons]
            simp
          have hex : (str (opn (y :: st))).extract 0 st.length = str (opn st) := by
            rw [str_extract, List.drop_zero, Nat.sub_zero, opn_take]
          have hll : (opn (y :: st)).length = st.length + 1 := opn_len _
          have hix := index_strn Try.underlying9 (opn (y :: st)) ((st.length : Int) + 1 - 1) st.length (by omega) (by omega) (P := Try.prog)
          rw [opn_top] at hix
          have hgt : ∀ h : st.length < (str (opn (y :: st))).size, ((str (opn (y :: st)))[st.length]'h).toNat = ltr y := fun h => by
            have h1 := opn_top y st (by omega)
            have h2 : (str (opn (y :: st)))[st.length]'h = (opn (y :: st))[st.length]'(by omega) := rfl
            rw [h2]
            omega
          have hsz0 : (str (opn st)).size = st.length := by rw [str_size, opn_len]
          have hsx := str_slice_h Try.underlying9 (opn (y :: st)) .i64 ((st.length : Int) + 1 - 1) st.length (by omega) (by omega) (P := Try.prog)
          rw [opn_take] at hsx
          have hw2 := IntWalk.i64_in ((st.length : Int) + 1 - 1) (by omega)
          by_cases h6 : y = 4
          · subst h6
            have HI2 : Hid (walkF ((opsL l).drop (j + 1)) (j + 1) (5 :: st) = R) := by rw [Hid, ← HI.out, walkF_else]
            have hap := opn_add 5 st 101 rfl
            have hl4 : ltr 4 = 105 := rfl
            rw [hl4] at hix hgt
            clear HI hl4 hlc
            go_wp2_with fail
            go_roundw
            case rel => exact ⟨j + 1, 5 :: st, by omega, rfl, by rw [Int.natCast_add]; rfl, HI2, by simp; omega, HS⟩
            case measure => simp [intOf]; omega
          · have hR0 : R = 0 := by rw [← HI.out, walkF_bad (by simp; exact h6)]
            subst hR0
            obtain ⟨q, hq⟩ : ∃ q, q = ltr y := ⟨_, rfl⟩
            have hq2 : ¬ q = 105 := by rw [hq, ltr_if]; exact h6
            have hq3 : ((q : Int) != 105) = true := bne_iff_ne.2 (by omega)
            rw [← hq] at hix hgt
            clear HI hq hlc
            go_wp2_with fail
            go_ret2
            exact ⟨⟨_, rfl⟩, HS.out⟩
      have m5 : ¬ (op : Int) = 5 := by omega
      have n5 : ((op : Int) == 5) = false := by simp; omega
      by_cases h11 : op = 11
      · subst h11
        cases st with
        | nil =>
          have hR0 : R = j + 1 := by rw [← HI.out, walkF_last]
          subst hR0
          rw [opn_nil]
          have hem : (str []).toList.isEmpty = true := by rw [str_toList]; rfl
          clear HI
          go_wp2_with fail
          go_ret2
          exact ⟨⟨_, by rw [Int.natCast_add]; rfl⟩, HS.out⟩
        | cons y st =>
          have HI2 : Hid (walkF ((opsL l).drop (j + 1)) (j + 1) st = R) := by rw [Hid, ← HI.out, walkF_end]
          have hlc : (y :: st).length = st.length + 1 := rfl
          rw [hlc] at hsl hsz
          have hne : (str (opn (y :: st))).toList.isEmpty = false := by
            rw [str_toList, opn_cons]
            simp
          have hex : (str (opn (y :: st))).extract 0 st.length = str (opn st) := by
            rw [str_extract, List.drop_zero, Nat.sub_zero, opn_take]
          have hll : (opn (y :: st)).length = st.length + 1 := opn_len _
          have hsx := str_slice_h Try.underlying9 (opn (y :: st)) .i64 ((st.length : Int) + 1 - 1) st.length (by omega) (by omega) (P := Try.prog)
          rw [opn_take] at hsx
          have hw2 := IntWalk.i64_in ((st.length : Int) + 1 - 1) (by omega)
          clear HI hlc
          go_wp2_with fail
          go_roundw
          case rel => exact ⟨j + 1, st, by omega, rfl, by rw [Int.natCast_add]; rfl, HI2, by omega, HS⟩
          case measure => simp [intOf]; omega
      have HI2 : Hid (walkF ((opsL l).drop (j + 1)) (j + 1) st = R) := by rw [Hid, ← HI.out, walkF_plain (by omega) h5 h11]
      have m11 : ¬ (op : Int) = 11 := by omega
      have n11 : ((op : Int) == 11) = false := by simp; omega
      clear HI
      go_wp2_with fail
      go_roundw
      case rel => exact ⟨j + 1, st, by omega, rfl, by rw [Int.natCast_add]; rfl, HI2, by omega, HS⟩
      case measure => simp [intOf]; omega
    · obtain rfl : j = n := by omega
      have hR0 : R = 0 := by
        rw [← HI.out, List.drop_eq_nil_of_le (by rw [opsL, List.length_map, HN.out]; exact Nat.le_refl _), walkF_nil]
      subst hR0
      clear HI
      go_wp2_with fail
      go_ret2
      exact ⟨⟨_, rfl⟩, HS.out⟩

set_option maxRecDepth 100000 in
set_option maxHeartbeats 3200000 in
theorem rshape_walk (w : World) (n c : Nat) (A : Option Addr) (l : List Ig) (S : Nat → Prop) (HN : Hid (n = l.length)) (hnb : n ≤ 1000) (hr : Reads w S 4 A n (igs l)) :
    Calls Try.prog 60 #[.slice A n c] w fun e w' => e = .returned (.int .i64 (shpF l : Nat)) ∧ Step (fun _ => False) w w' := by
  have HG := Lib.hid (rwalk_walk w n c A l S HN hnb hr)
  obtain ⟨R, hR⟩ : ∃ R, R = walkF (opsL l) 0 [] := ⟨_, rfl⟩
  have hle := walkF_le (opsL l) 0 []
  rw [opsL, List.length_map, Nat.zero_add, ← HN.out, ← opsL, ← hR] at hle
  have hsh : shpF l = if R = n ∧ ¬ n = 0 then 0 else 30 := by rw [shpF, ← hR, ← HN.out]
  rw [← hR] at HG
  obtain ⟨Q, hQ⟩ : ∃ Q, Q = shpF l := ⟨_, rfl⟩
  rw [← hQ] at hsh ⊢
  have g0 : ¬ (20000 : Int) < (n : Int) := by omega
  clear hr hR hQ
  by_cases h : R = n ∧ ¬ n = 0
  · rw [if_pos h] at hsh
    subst hsh
    obtain ⟨rfl, h0⟩ := h
    have h1 : ((R : Int) == 0) = false := by simp; omega
    have h2 : ((R : Int) != (R : Int)) = false := by simp
    go_enter Try.func60, Try.ntmps60
    go_wp2_with fail
    refine HG.out.mono ?_
    rintro e w1 ⟨⟨z, rfl⟩, hS⟩
    go_wp2_with fail
    go_ret
    exact ⟨rfl, hS⟩
  · rw [if_neg h] at hsh
    subst hsh
    by_cases h0 : R = 0
    · subst h0
      go_enter Try.func60, Try.ntmps60
      go_wp2_with fail
      refine HG.out.mono ?_
      rintro e w1 ⟨⟨z, rfl⟩, hS⟩
      go_wp2_with fail
      go_ret
      exact ⟨rfl, hS⟩
    · have h1 : ((R : Int) == 0) = false := by simp; omega
      have h2 : ((R : Int) != (n : Int)) = true := bne_iff_ne.2 (by omega)
      go_enter Try.func60, Try.ntmps60
      go_wp2_with fail
      refine HG.out.mono ?_
      rintro e w1 ⟨⟨z, rfl⟩, hS⟩
      go_wp2_with fail
      go_ret
      exact ⟨rfl, hS⟩
end Go.Proofs.Ytfemeendkjcffaa
/-! instr: GetBody of a body that may be. -/
namespace Go.Proofs.Ytfemeendkjcffaa
open Go.RowKit

/-- An instruction as it is read. -/
def Ig.back (x : Ig) (D : Option Addr) (f : Nat) : Ig := ⟨x.op, x.a, x.b, x.n, f, D, x.L⟩
def BkI (w : World) (B : Nat) (x y : Ig) : Prop := y = x.back y.A y.c ∧ w.ownsRow B 51 1 (.slice y.A x.n y.c) x.n (u32s x.L)
def InnI (w : World) (B : Nat) (l lb : List Ig) : Prop := lb.length = l.length ∧ ∀ (i : Nat) (x y : Ig), l[i]? = some x → lb[i]? = some y → BkI w B x y
theorem InnI.turn {w w' : World} {B : Nat} {l lb : List Ig} (h : InnI w B l lb) (ht : ∀ (D : Option Addr) (n c : Nat) (xs : List Value), w.ownsRow B 51 1 (.slice D n c) n xs → w'.ownsRow B 51 1 (.slice D n c) n xs) : InnI w' B l lb :=
  ⟨h.1, fun i x y hx hy => ⟨(h.2 i x y hx hy).1, ht _ _ _ _ (h.2 i x y hx hy).2⟩⟩
theorem InnI.nil_ (w : World) (B : Nat) : InnI w B [] [] := ⟨rfl, fun i x y hx _ => by cases i <;> cases hx⟩
theorem InnI.snoc {w : World} {B : Nat} {l lb : List Ig} {x y : Ig} (h : InnI w B l lb) (hb : BkI w B x y) : InnI w B (l ++ [x]) (lb ++ [y]) := by
  refine ⟨by simp [h.1], fun i u v hu hv => ?_⟩
  by_cases hi : i < l.length
  · rw [List.getElem?_append_left hi] at hu
    rw [List.getElem?_append_left (by rw [h.1]; exact hi)] at hv
    exact h.2 i u v hu hv
  · rw [List.getElem?_append_right (by omega)] at hu
    rw [List.getElem?_append_right (by rw [h.1]; omega), h.1] at hv
    have hlt := (List.getElem?_eq_some_iff.1 hu).1
    simp at hlt
    have h0 : i - l.length = 0 := by omega
    rw [h0] at hu hv
    simp at hu hv
    subst hu hv
    exact hb
theorem iputs_drop (l : List Ig) (j : Nat) (h : j < l.length) : (l.drop j).flatMap Ig.put = l[j].put ++ (l.drop (j + 1)).flatMap Ig.put := by
  rw [List.drop_eq_getElem_cons h, List.flatMap_cons]
theorem E_ig : ElemTy Try.prog 96 50 4 48 := elem_of Try.underlying96 (z := .agg #[.int .u8 0, .int .u64 0, .int .u64 0, .slice none 0 0]) (by kernel_rfl) rfl (by decide)
def lenOf : Value → Nat
  | .slice _ n _ => n
  | _ => 0
/-- The blocks that stand open, in the program's row (none: the body has ended). -/
def OpenS (l : List Ig) (n j k c3 g B : Nat) (w : World) : Prop := (k = 0 → j = n) ∧ (0 < k → ∃ st : List Nat, k = st.length + 1 ∧ walkF ((opsL l).drop j) j st = n ∧ st.length ≤ j ∧ (∀ x ∈ st, x < 256) ∧ w.ownsRow B 5 1 (.slice (some ⟨g, 0, none⟩) (st.length + 1) c3) (st.length + 1) (u8s (stk st)))

set_option maxRecDepth 100000 in
set_option maxHeartbeats 12800000 in
theorem gbody_at (w : World) (X : Nat) (S : Nat → Prop) (D : Option Addr) (c : Nat) (bs : List UInt8) (b0 : Nat) (h : Scn w X S D c bs b0) (l : List Ig) (n : Nat) (HN : Hid (n = l.length)) (hnb : n ≤ 1000) (hok : ∀ x ∈ l, x.wf ∧ x.err = 0) (hin : ∀ x ∈ l, x.L.length = x.n ∧ ∀ y ∈ x.L, y < 4294967296) (hs : shpF l = 0) (rest : List UInt8) (hd : bs.drop b0 = l.flatMap Ig.put ++ rest) :
    Calls Try.prog 161 #[.pointer (some ⟨X, 0, none⟩)] w fun e w' => ∃ D' c' lb, e = .returned (.slice D' n c') ∧ w'.ownsRow w.heap.size 50 4 (.slice D' n c') n (igs lb) ∧ InnI w' w.heap.size l lb ∧ Scn w' X S D c bs (b0 + (l.flatMap Ig.put).length) ∧ Step (fun i => i = X) w w' := by
  have hwn : walkF (opsL l) 0 [] = n ∧ ¬ n = 0 := by
    rw [shpF] at hs
    split at hs
    · rename_i h1
      rw [HN.out]
      exact h1
    · cases hs
  obtain ⟨hw0, hn0⟩ := hwn
  have hxl := h.lt
  have hlow := h.low
  have HH := Lib.hid h
  have HOK := Lib.hid hok
  have HIN := Lib.hid hin
  have HD := Lib.hid hd
  have HW0 := Lib.hid hw0
  clear h hd hok hin hs hw0
  have HO0 : Hid ((w.alloc (.cells #[.int .u8 0] 5)).ownsRow w.heap.size 5 1 (.slice (some ⟨w.heap.size, 0, none⟩) 1 1) 1 (u8s (stk []))) :=
    World.ownsRow_lit (base := w.heap.size) (e := 5) (size := 1) w #[Value.int .u8 0] 1 (Nat.le_refl _) (by decide) rfl
  have HT0 := Lib.hid ((Step.refl (F := fun i => i = X)).alloc (w := w) (.cells #[.int .u8 0] 5))
  have HK0 : Hid (Scn (w.alloc (.cells #[.int .u8 0] 5)) X S D c bs (b0 + ((l.take 0).flatMap Ig.put).length)) := HH.out.alloc _
  clear HH
  go_enter Try.func161, Try.ntmps161
  go_wp2_with fail
  go_loopw [3, 4] (fun ov iv wr => ∃ (j k c2 c3 g : Nat) (D2 : Option Addr) (lb : List Ig), j ≤ n ∧ ov = .slice D2 j c2 ∧ iv = .slice (some ⟨g, 0, none⟩) k c3 ∧ Hid (OpenS l n j k c3 g w.heap.size wr) ∧
    Hid (wr.ownsRow w.heap.size 50 4 (.slice D2 j c2) j (igs lb)) ∧ Hid (InnI wr w.heap.size (l.take j) lb) ∧ Hid (Scn wr X S D c bs (b0 + ((l.take j).flatMap Ig.put).length)) ∧ Hid (Step (fun i => i = X) w wr)) (fun ov iv _ => 2 * n + 2 - 2 * lenOf ov - (if lenOf iv = 0 then 1 else 0))
  case atStart => exact ⟨0, 1, 0, 1, w.heap.size, none, [], by omega, rfl, rfl, ⟨(fun h => by cases h), fun _ => ⟨[], rfl, by rw [List.drop_zero, HW0.out], by simp, (fun x hx => by cases hx), HO0.out⟩⟩, World.ownsRow_nil _ _ _ _, InnI.nil_ _ _, HK0, HT0⟩
  case round =>
    obtain ⟨j, k, c2, c3, g, D2, lb, hj, rfl, rfl, HS, HOj, HJj, HKj, HTj⟩ := hrel
    clear HO0 HK0 HT0 HW0
    by_cases hk : k = 0
    · subst hk
      obtain rfl : j = n := HS.out.1 rfl
      have hLt : l.take j = l := by rw [HN.out]; exact List.take_length
      rw [hLt] at HJj HKj
      go_wp2_with fail
      go_ret
      exact ⟨D2, c2, lb, rfl, HOj.out, HJj.out, HKj.out, HTj.out⟩
    · obtain ⟨st, hkl, hwk, hsl, hB, hop⟩ := HS.out.2 (by omega)
      subst hkl
      have HB := Lib.hid hB
      have HP := Lib.hid hop
      have hlt : j < n := by
        refine Nat.lt_of_le_of_ne hj fun h => ?_
        rw [List.drop_eq_nil_of_le (by rw [opsL, List.length_map, h, HN.out]; exact Nat.le_refl _), walkF_nil] at hwk
        omega
      clear hB hop HS hk
      have g1 : (0 : Int) < (st.length : Int) + 1 := by omega
      have hjl : j < l.length := by rw [← HN.out]; exact hlt
      have hx := HOK.out l[j] (List.getElem_mem hjl)
      have hin := HIN.out l[j] (List.getElem_mem hjl)
      have HU : Hid (l.take (j + 1) = l.take j ++ [l[j]]) := List.take_succ_eq_append_getElem hjl
      have hdj : bs.drop (b0 + ((l.take j).flatMap Ig.put).length) = l[j].put ++ ((l.drop (j + 1)).flatMap Ig.put ++ rest) := by
        rw [← List.append_assoc, ← iputs_drop l j hjl]
        refine drop_app ?_
        rw [HD.out]
        have e1 : l.flatMap Ig.put = (l.take j).flatMap Ig.put ++ (l.drop j).flatMap Ig.put := by rw [← List.flatMap_append, List.take_append_drop]
        rw [e1, List.append_assoc]
      have HK2' : Hid (b0 + ((l.take (j + 1)).flatMap Ig.put).length = b0 + ((l.take j).flatMap Ig.put).length + l[j].put.length) := by
        rw [Hid, List.take_succ_eq_append_getElem hjl, List.flatMap_append, List.length_append]
        simp
        omega
      rw [ops_drop l j hjl] at hwk
      obtain ⟨x, hxe⟩ : ∃ x, x = l[j] := ⟨_, rfl⟩
      rw [← hxe] at hx hin HU hdj HK2' hwk
      clear hxe
      obtain ⟨kj, hkj⟩ : ∃ kj, kj = b0 + ((l.take j).flatMap Ig.put).length := ⟨_, rfl⟩
      rw [← hkj] at HKj hdj HK2'
      clear hkj
      obtain ⟨op, a, b, m, fc, FA, L⟩ := x
      obtain ⟨⟨h1, h2⟩, hz⟩ := hx
      simp only at h1 h2 hin hwk
      obtain ⟨hfm, hLb⟩ := hin
      simp only [Ig.err] at hz
      subst hfm
      have HG := Lib.hid (fun w' (h' : Scn w' X S D c bs kj) => get_all w' X S D c bs kj h' op a b L _ h1 h2 hLb hz hdj)
      have HWk := Lib.hid hwk
      obtain ⟨q, hq⟩ : ∃ q, q = L.length := ⟨_, rfl⟩
      have hDX : blkOf D2 ≠ some X := by rw [← ownBlock_slice D2 j c2]; exact own_tag HOj.out HKj.out.blk (by decide)
      have hDge : ∀ q, blkOf D2 = some q → w.heap.size ≤ q := fun q hq => own_ge HOj.out q (by rw [ownBlock_slice]; exact hq)
      have hDlt : ∀ q, blkOf D2 = some q → q < wr.heap.size := fun q hq => own_lt HOj.out q (by rw [ownBlock_slice]; exact hq)
      have HAt : Hid (Calls Try.prog 52 #[.pointer (some ⟨X, 0, none⟩)] wr fun e w' => e = .returned (.int .i64 (kj : Int)) ∧ w' = wr) := at_walk _ X S D c bs kj HKj.out
      rw [← hq] at HG
      have HQ := Lib.hid hq
      clear hdj hz hLb hwk hq
      simp only [insC] at HG
      go_wp2_with fail
      refine HAt.out.mono ?_
      rintro e wS ⟨rfl, hwS⟩
      subst wS
      go_wp2_with fail
      refine (HG.out _ HKj.out).mono ?_
      rintro e wa ⟨DI, cI, rfl, hta, hin, hsa⟩
      have hin2 := own_base hin (base' := w.heap.size) (fun q hq => Nat.le_trans HTj.out.size (own_ge hin q hq))
      have HJa := Lib.hid (HJj.out.turn (w' := wa) (fun D n c xs h => own_step h hta (fun q hq e => own_tag h HKj.out.blk (by decide) (e ▸ hq))))
      have HNa := Lib.hid hin2
      rw [← HQ.out] at HNa
      have HSa := Lib.hid hsa
      have HPa := Lib.hid (own_step HP.out hta (fun q hq e => own_tag HP.out HKj.out.blk (by decide) (e ▸ hq)))
      have HOa := Lib.hid (own_step HOj.out hta (fun q hq e => hDX (by rw [← ownBlock_slice D2 j c2, hq, e])))
      have HTa := Lib.hid (HTj.out.trans hta)
      have hwa := hta.size
      have hU1 : ((j : Int) < 20000) = True := by simp; omega
      have hU2 : decide ((j : Int) < 20000) = true := by simp; omega
      have HBa := Lib.hid (Blk.new wa 50 #[.int .u8 (op : Int), .int .u64 (a : Int), .int .u64 (b : Int), .slice DI q cI])
      clear hin hin2 hsa hta HP
      go_wp2_with fail
      refine (aunless_ok _ _ _).mono ?_
      rintro e wS ⟨rfl, rfl⟩
      obtain ⟨W1, hW1⟩ : ∃ W1, W1 = wa.alloc (.cells #[.int .u8 (op : Int), .int .u64 (a : Int), .int .u64 (b : Int), .slice DI q cI] 50) := ⟨_, rfl⟩
      rw [← hW1] at HBa ⊢
      have HB1 := HBa
      have HS1 : Hid (Scn W1 X S D c bs (kj + (putL op a b L).length)) := by rw [hW1]; exact HSa.out.alloc _
      have HP1 : Hid (W1.ownsRow w.heap.size 5 1 (.slice (some ⟨g, 0, none⟩) (st.length + 1) c3) (st.length + 1) (u8s (stk st))) := by rw [hW1]; exact HPa.out.alloc _
      have HO1 : Hid (W1.ownsRow w.heap.size 50 4 (.slice D2 j c2) j (igs lb)) := by rw [hW1]; exact HOa.out.alloc _
      have HJ1 : Hid (InnI W1 w.heap.size (l.take j) lb) := by rw [hW1]; exact HJa.out.turn (fun D n c xs h => h.alloc _)
      have HN1 : Hid (W1.ownsRow w.heap.size 51 1 (.slice DI q cI) q (u32s L)) := by rw [hW1]; exact HNa.out.alloc _
      have HT1 : Hid (Step (fun i => i = X) w W1) := by rw [hW1]; exact HTa.out.alloc _
      obtain ⟨I, hI⟩ : ∃ I, I = wa.heap.size := ⟨_, rfl⟩
      rw [← hI] at HB1 ⊢
      have hIr : wr.heap.size ≤ I := by omega
      clear hW1 hI hwa HBa HSa HPa HOa HJa HNa HTa HG HAt
      have i0 := HB1.out.cell 0
      have i1 := HB1.out.cell 1
      have i2 := HB1.out.cell 2
      have i3 := HB1.out.cell 3
      simp at i0 i1 i2 i3
      have HB2 := Lib.hid (HB1.out.alloc (.cells #[.int .u8 (op : Int), .int .u64 (a : Int), .int .u64 (b : Int), .slice DI q cI] 50))
      have HS2 := Lib.hid (HS1.out.alloc (.cells #[.int .u8 (op : Int), .int .u64 (a : Int), .int .u64 (b : Int), .slice DI q cI] 50))
      have HP2 := Lib.hid (HP1.out.alloc (.cells #[.int .u8 (op : Int), .int .u64 (a : Int), .int .u64 (b : Int), .slice DI q cI] 50))
      have HO2 := Lib.hid (HO1.out.alloc (.cells #[.int .u8 (op : Int), .int .u64 (a : Int), .int .u64 (b : Int), .slice DI q cI] 50))
      have HJ2 : Hid (InnI (W1.alloc (.cells #[.int .u8 (op : Int), .int .u64 (a : Int), .int .u64 (b : Int), .slice DI q cI] 50)) w.heap.size (l.take j) lb) := HJ1.out.turn (fun D n c xs h => h.alloc _)
      have HN2 := Lib.hid (HN1.out.alloc (.cells #[.int .u8 (op : Int), .int .u64 (a : Int), .int .u64 (b : Int), .slice DI q cI] 50))
      have HT2 := Lib.hid (HT1.out.alloc (.cells #[.int .u8 (op : Int), .int .u64 (a : Int), .int .u64 (b : Int), .slice DI q cI] 50))
      have hrn := reads_new W1 #[Value.int .u8 (op : Int), .int .u64 (a : Int), .int .u64 (b : Int), .slice DI q cI] 50 4 1 rfl
      have hone : ∀ u ∈ #[Value.int .u8 (op : Int), .int .u64 (a : Int), .int .u64 (b : Int), .slice DI q cI].toList, u.oneCell' = true := by simp [Value.oneCell']
      have hm : j + 1 ≤ maxLen := by unfold maxLen; omega
      have hsz := HT2.out.size
      clear HS1 HP1 HO1 HJ1 HN1 HT1
      have hDI : blkOf D2 ≠ some I := fun e => by have := hDlt I e; omega
      go_wp2_with (at_builtin; refine wpList_append_src _ rfl _ _ (by rfl) E_ig (by rfl) HO2.out (by rfl) hrn hone hm (by omega) hsz ?_; intro D3 c3' w3 hown hgrow hat; have HG3 := Lib.hid hgrow; have HB3 := Lib.hid (HB2.out.grown hgrow hDI); have k0 := HB3.out.cell 0; simp at k0; clear hat hgrow)
      have hkeep : ∀ (e : TypeId) (D : Option Addr) (n c : Nat) (xs : List Value), e ≠ 50 → (W1.alloc (.cells #[.int .u8 (op : Int), .int .u64 (a : Int), .int .u64 (b : Int), .slice DI q cI] 50)).ownsRow w.heap.size e 1 (.slice D n c) n xs → w3.ownsRow w.heap.size e 1 (.slice D n c) n xs := fun e D n c xs hne h => own_apart h HG3.out (fun q hq e => own_tag2 h HO2.out hne q hq (by rw [ownBlock_slice]; exact e))
      have HJ3 := Lib.hid (HJ2.out.turn (hkeep _ · · · · (by decide)))
      have HN3 := hkeep _ _ _ _ _ (by decide) HN2.out
      have HP3 := Lib.hid (hkeep _ _ _ _ _ (by decide) HP2.out)
      have HK3 := Lib.hid (HS2.out.step (F := fun q => blkOf D2 = some q) (Step.refl.grown HG3.out (fun q hq => .inl hq)) hDX (fun q hq hd => by have := hlow q hq; have := hDge q hd; omega))
      have HT3 := Lib.hid (HT2.out.grown HG3.out (fun q hq => .inr (hDge q hq)))
      rw [show kj + (putL op a b L).length = b0 + ((l.take (j + 1)).flatMap Ig.put).length from HK2'.out.symm] at HK3
      have hus : igs lb ++ #[Value.int .u8 (op : Int), .int .u64 (a : Int), .int .u64 (b : Int), .slice DI q cI].toList = igs (lb ++ [Ig.back ⟨op, a, b, q, fc, FA, L⟩ DI cI]) := by rw [igs_append]; rfl
      rw [hus] at hown
      have HO3 := Lib.hid hown
      have HJ4 : Hid (InnI w3 w.heap.size (l.take (j + 1)) (lb ++ [Ig.back ⟨op, a, b, q, fc, FA, L⟩ DI cI])) := by rw [HU.out, ← HQ.out]; exact HJ3.out.snoc ⟨rfl, HN3⟩
      obtain ⟨lc, hlc⟩ : ∃ lc, lc = lb ++ [Ig.back ⟨op, a, b, q, fc, FA, L⟩ DI cI] := ⟨_, rfl⟩
      rw [← hlc] at HO3 HJ4
      have HOp : Hid (∀ w, Calls Try.prog 28 #[.int .u8 (op : Int)] w fun e w' => e = .returned (.bool (decide (2 ≤ op) && decide (op ≤ 4))) ∧ w' = w) := fun w => opens_walk w op h1
      have HWk := Lib.hid HWk.out
      clear hlc hus hown HJ3 HN3 HN2 HP2 HS2 HT2 HJ2 HO2 HG3 HB1 HB2 hrn hone hm hsz hkeep HU HK2' i0 i1 i2 i3
      have hX3 : ∀ q, q = g → q ≠ X := fun q hq e => own_tag HP3.out HK3.out.blk (by decide) (by rw [ownBlock_slice, ← e, hq]; rfl)
      have hgw : w.heap.size ≤ g := own_ge HP3.out g rfl
      have hgl : g < w3.heap.size := own_lt HP3.out g rfl
      have hgO : ∀ q, Value.ownBlock (.slice D3 (j + 1) c3') = some q → q ≠ g := fun q hq e => own_tag2 HP3.out HO3.out (by decide) g rfl (e ▸ hq)
      by_cases h24 : 2 ≤ op ∧ op ≤ 4
      · have hd : (decide (2 ≤ op) && decide (op ≤ 4)) = true := by simp [h24]
        rw [hd] at HOp
        have HI2 : walkF ((opsL l).drop (j + 1)) (j + 1) (op :: st) = n := by rw [← HWk.out, walkF_open h24]
        have hB2 : ∀ x ∈ op :: st, x < 256 := fun x hx' => by
          rcases List.mem_cons.1 hx' with rfl | hx'
          · exact h1
          · exact HB.out x hx'
        have HI2 := Lib.hid HI2
        have HB2 := Lib.hid hB2
        have HBy := Lib.hid (byte_cell op h1)
        have HP4 := Lib.hid (HP3.out.alloc (.cells #[.int .u8 (op : Int)] 5))
        have HO4 := Lib.hid (HO3.out.alloc (.cells #[.int .u8 (op : Int)] 5))
        have HK4 := Lib.hid (HK3.out.alloc (.cells #[.int .u8 (op : Int)] 5))
        have HT4 := Lib.hid (HT3.out.alloc (.cells #[.int .u8 (op : Int)] 5))
        have HJ5 : Hid (InnI (w3.alloc (.cells #[.int .u8 (op : Int)] 5)) w.heap.size (l.take (j + 1)) lc) := HJ4.out.turn (fun D n c xs h => h.alloc _)
        have hrn := reads_new w3 #[Value.int .u8 (op : Int)] 5 1 1 rfl
        have hone : ∀ u ∈ #[Value.int .u8 (op : Int)].toList, u.oneCell' = true := by simp [Value.oneCell']
        have hm : st.length + 1 + 1 ≤ maxLen := by unfold maxLen; omega
        have hsz := HT4.out.size
        clear hd hB2 HWk HT3 HK3 HO3 HJ4
        refine (HOp.out _).mono ?_
        rintro e wS ⟨rfl, hwS⟩
        subst wS
        go_wp2_with (at_builtin; refine wpList_append_src _ rfl _ _ (by rfl) E_u8 (by rfl) HP4.out (by rfl) hrn hone hm (by omega) hsz ?_; intro D9 c9 w9 hown hgrow hat)
        have hcs : u8s (stk st) ++ #[Value.int .u8 (op : Int)].toList = u8s (stk (op :: st)) := by rw [stk_push, u8s_append, HBy.out]
        rw [hcs] at hown
        obtain ⟨g9, hg9⟩ : ∃ g9, D9 = some ⟨g9, 0, none⟩ := by
          obtain ⟨g9, cap, hv, _⟩ := hown.form (by omega)
          injection hv with hv
          exact ⟨g9, hv⟩
        subst hg9
        have HO9 := own_apart HO4.out hgrow (fun q hq e => hgO q hq (by injection e with e; exact e.symm))
        have HJ9 := HJ5.out.turn (fun D n c xs h => own_apart h hgrow (fun q hq e => own_tag2 h HP4.out (by decide) q hq (by rw [ownBlock_slice]; exact e)))
        have HK9 := HK4.out.step (F := fun q => q = g) (Step.refl.grown hgrow (fun q hq => .inl (by injection hq with hq; exact hq.symm))) (fun e => hX3 X e rfl) (fun q hq hd => by have := hlow q hq; omega)
        have HT9 := HT4.out.grown hgrow (fun q hq => .inr (by injection hq with hq; rw [← hq]; exact hgw))
        go_roundw
        case rel => exact ⟨j + 1, st.length + 1 + 1, c3', c9, g9, D3, lc, by omega, rfl, rfl, ⟨(fun h => absurd h (by omega)), fun _ => ⟨op :: st, rfl, HI2.out, by simp; omega, HB2.out, hown⟩⟩, HO9, HJ9, HK9, HT9⟩
        case measure => simp [lenOf]; omega
      · have hd : (decide (2 ≤ op) && decide (op ≤ 4)) = false := by
          cases hq : (decide (2 ≤ op) && decide (op ≤ 4)) with
          | false => rfl
          | true =>
            simp only [Bool.and_eq_true, decide_eq_true_eq] at hq
            exact absurd hq h24
        rw [hd] at HOp
        clear hd
        refine (HOp.out _).mono ?_
        rintro e wS ⟨rfl, hwS⟩
        subst wS
        by_cases h11 : op = 11
        · subst h11
          cases st with
          | nil =>
            have hjn : Hid (j + 1 = n) := by rw [Hid, ← HWk.out, walkF_last]
            clear HWk
            go_wp2_with fail
            go_roundw
            case rel => exact ⟨j + 1, 0, c3', c3, g, D3, lc, by omega, rfl, rfl, ⟨(fun _ => hjn.out), fun h => absurd h (by omega)⟩, HO3.out, HJ4.out, HK3.out, HT3.out⟩
            case measure => simp [lenOf]; omega
          | cons y st =>
            have HI2 : walkF ((opsL l).drop (j + 1)) (j + 1) st = n := by rw [← HWk.out, walkF_end]
            have hlc : (y :: st).length = st.length + 1 := rfl
            have hcap := own_cap HP3.out
            have hO2 := own_take HP3.out (k := st.length + 1) (by rw [hlc]; omega)
            rw [Nat.mul_one, stk_pop] at hO2
            rw [hlc] at hsl hcap ⊢
            have hwl := IntWalk.i64_in ((st.length : Int) + 1) (by omega)
            have sh := slice_hn E_u8 (some ⟨g, 0, none⟩) (st.length + 1 + 1) c3 .i64 ((st.length : Int) + 1) (st.length + 1) (by omega) (by omega)
            have hB2 : ∀ x ∈ st, x < 256 := fun x hx' => HB.out x (List.mem_cons_of_mem _ hx')
            have HI2 := Lib.hid HI2
            have HB2 := Lib.hid hB2
            have HP9 := Lib.hid hO2
            clear hB2 HWk hO2 hcap hlc
            go_wp2_with fail
            go_roundw
            case rel => exact ⟨j + 1, st.length + 1, c3', c3, g, D3, lc, by omega, rfl, rfl, ⟨(fun h => absurd h (by omega)), fun _ => ⟨st, rfl, HI2.out, by omega, HB2.out, HP9.out⟩⟩, HO3.out, HJ4.out, HK3.out, HT3.out⟩
            case measure => simp [lenOf]; omega
        by_cases h5 : op = 5
        · subst h5
          have hst : st.head? = some 4 := by
            refine Classical.byContradiction fun h => ?_
            have h9 := HWk.out
            rw [walkF_bad h] at h9
            omega
          cases st with
          | nil => cases hst
          | cons y st =>
            simp only [List.head?_cons, Option.some.injEq] at hst
            subst hst
            have hlc : (4 :: st).length = st.length + 1 := rfl
            have hcc : w3.cell? ⟨g, st.length + 1, none⟩ = some (.int .u8 4) := by
              obtain ⟨ad, u, e1, _, hgl, hu, hc⟩ := (Reads.of_own HP3.out).at_ (k := st.length + 1) (by rw [hlc]; omega)
              injection e1 with e1
              subst e1
              rw [stk_top 4 st (by decide)] at hu
              injection hu with hu
              subst hu
              rw [Addr.add_lit, Nat.zero_add] at hc
              exact hc
            have hfz : w3.frozen? ⟨g, st.length + 1, none⟩ = false := by
              rcases HP3.out.2 with ⟨hv, _⟩ | ⟨g', cap, cur, hv, _, hh, _⟩
              · cases hv
              · injection hv with e1
                injection e1 with e1
                injection e1 with e1
                subst e1
                exact Blk.frozen (cs := cur) (t := 5) hh _
            have HI2 : walkF ((opsL l).drop (j + 1)) (j + 1) (5 :: st) = n := by rw [← HWk.out, walkF_else]
            have HP8 := HP3.out
            rw [hlc] at HP8 hsl ⊢
            have HP9 := own_setAt (j := st.length + 1) (u := .int .u8 5) HP8 (by rw [u8s, List.length_map, stk_len]; simp)
            rw [stk_set] at HP9
            have hB2 : ∀ x ∈ 5 :: st, x < 256 := fun x hx' => by
              rcases List.mem_cons.1 hx' with rfl | hx'
              · decide
              · exact HB.out x (List.mem_cons_of_mem _ hx')
            have HI2 := Lib.hid HI2
            have HB2 := Lib.hid hB2
            have HP9 := Lib.hid HP9
            have HO9 := Lib.hid (own_set HO3.out (p := ⟨g, st.length + 1, none⟩) (fun e => hgO _ e rfl) (.int .u8 5))
            have HJ9 : Hid (InnI (w3.setCell ⟨g, st.length + 1, none⟩ (.int .u8 5)) w.heap.size (l.take (j + 1)) lc) := HJ4.out.turn (fun D n c xs h => own_set h (p := ⟨g, st.length + 1, none⟩) (fun e => own_tag2 h HP3.out (by decide) g e rfl) _)
            have HK9 := Lib.hid (HK3.out.step (F := fun q => q = g) ((Step.refl (F := fun q => q = g)).setCell (p := ⟨g, st.length + 1, none⟩) (.inl rfl) (.int .u8 5)) (fun e => hX3 X e rfl) (fun q hq hd => by have := hlow q hq; omega))
            have HT9 := Lib.hid (HT3.out.setCell (p := ⟨g, st.length + 1, none⟩) (.inr hgw) (.int .u8 5))
            have hwl := IntWalk.i64_in ((st.length : Int) + 1) (by omega)
            have q0 : (0 : Int) ≤ (st.length : Int) + 1 := by omega
            have q1 : (st.length : Int) + 1 < (st.length : Int) + 1 + 1 := by omega
            clear hB2 HWk hlc HP8 HP3 HO3 HJ4 HK3 HT3
            go_wp2_with fail
            refine (aunless_ok _ _ _).mono ?_
            rintro e wS ⟨rfl, hwS⟩
            subst wS
            go_wp2_with fail
            go_roundw
            case rel => exact ⟨j + 1, st.length + 1 + 1, c3', c3, g, D3, lc, by omega, rfl, rfl, ⟨(fun h => absurd h (by omega)), fun _ => ⟨5 :: st, rfl, HI2.out, by simp; omega, HB2.out, HP9.out⟩⟩, HO9.out, HJ9.out, HK9.out, HT9.out⟩
            case measure => simp [lenOf]; omega
        · have HI2 : walkF ((opsL l).drop (j + 1)) (j + 1) st = n := by rw [← HWk.out, walkF_plain h24 h5 h11]
          have n5 : ((op : Int) == 5) = false := by simp; omega
          have n11 : ((op : Int) == 11) = false := by simp; omega
          have m5 : ¬ (op : Int) = 5 := by omega
          have m11 : ¬ (op : Int) = 11 := by omega
          have HI2 := Lib.hid HI2
          clear HWk h24 h5 h11
          go_wp2_with fail
          go_roundw
          case rel => exact ⟨j + 1, st.length + 1, c3', c3, g, D3, lc, by omega, rfl, rfl, ⟨(fun h => absurd h (by omega)), fun _ => ⟨st, rfl, HI2.out, by omega, HB.out, HP3.out⟩⟩, HO3.out, HJ4.out, HK3.out, HT3.out⟩
          case measure => simp [lenOf]; omega
theorem gbody_ok (w : World) (X : Nat) (S : Nat → Prop) (D : Option Addr) (c : Nat) (bs : List UInt8) (h : Scn w X S D c bs 0) (l : List Ig) (n : Nat) (HN : Hid (n = l.length)) (hnb : n ≤ 1000) (hok : ∀ x ∈ l, x.wf ∧ x.err = 0) (hin : ∀ x ∈ l, x.L.length = x.n ∧ ∀ y ∈ x.L, y < 4294967296) (hs : shpF l = 0) (rest : List UInt8) (hd : bs = l.flatMap Ig.put ++ rest) :
    Calls Try.prog 161 #[.pointer (some ⟨X, 0, none⟩)] w fun e w' => ∃ D' c' lb, e = .returned (.slice D' n c') ∧ w'.ownsRow w.heap.size 50 4 (.slice D' n c') n (igs lb) ∧ InnI w' w.heap.size l lb ∧ Scn w' X S D c bs (l.flatMap Ig.put).length ∧ Step (fun i => i = X) w w' := by
  have h1 := gbody_at w X S D c bs 0 h l n HN hnb hok hin hs rest (by rw [List.drop_zero]; exact hd)
  rw [Nat.zero_add] at h1
  exact h1
end Go.Proofs.Ytfemeendkjcffaa
