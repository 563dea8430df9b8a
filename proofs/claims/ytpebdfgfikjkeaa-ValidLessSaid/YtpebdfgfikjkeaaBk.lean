/-
  Which bodies may be: instr.Shape, bodies.Right, bodies.Types (out of Is, Bp and BoB, under other names).
-/
import Derived.Test.YtpebdfgfikjkeaaBoA
import Derived.Test.YtpebdfgfikjkeaaInA
import Derived.Test.YtpebdfgfikjkeaaRes
import Derived.Test.YtpebdfgfikjkeaaRr
set_option linter.unusedVariables false
set_option linter.unusedSimpArgs false
namespace Go.Proofs.Ytpebdfgfikjkeaa
open Go.RowKit

/-- The cells of an instruction. -/
def insC (op a b : Int) (D : Option Addr) (n c : Nat) : Array Value := #[.int .u8 op, .int .u64 a, .int .u64 b, .slice D n c]
set_option maxRecDepth 100000 in
set_option maxHeartbeats 1600000 in
theorem ended_walk (w : World) (b : Bool) : Calls Try.prog 64 #[.bool b] w fun e w' => e = .returned (.int .i64 (if b then 0 else 30 : Nat)) ∧ w' = w := by
  cases b <;>
  · go_enter Try.func64, Try.ntmps64
    go_wp2_with fail
    go_ret
    exact ⟨rfl, rfl⟩


/-- Where the body that instructions begin with ends (0: nowhere), from place i on, with these blocks open (the innermost first). -/
def walkF : List Nat → Nat → List Nat → Nat
  | [], _, _ => 0
  | op :: l, i, st =>
    if 2 ≤ op ∧ op ≤ 4 then walkF l (i + 1) (op :: st)
    else if op = 5 then (if st.head? = some 4 then walkF l (i + 1) (5 :: st.tail) else 0)
    else if op = 11 then (if st = [] then i + 1 else walkF l (i + 1) st.tail)
    else walkF l (i + 1) st
theorem walkF_cons (op : Nat) (l : List Nat) (i : Nat) (st : List Nat) : walkF (op :: l) i st = if 2 ≤ op ∧ op ≤ 4 then walkF l (i + 1) (op :: st)
    else if op = 5 then (if st.head? = some 4 then walkF l (i + 1) (5 :: st.tail) else 0)
    else if op = 11 then (if st = [] then i + 1 else walkF l (i + 1) st.tail)
    else walkF l (i + 1) st := rfl
theorem walkF_nil (i : Nat) (st : List Nat) : walkF [] i st = 0 := rfl
theorem walkF_open {op : Nat} {l : List Nat} {i : Nat} {st : List Nat} (h : 2 ≤ op ∧ op ≤ 4) : walkF (op :: l) i st = walkF l (i + 1) (op :: st) := by rw [walkF_cons, if_pos h]
theorem walkF_else {l : List Nat} {i : Nat} {st : List Nat} : walkF (5 :: l) i (4 :: st) = walkF l (i + 1) (5 :: st) := by rw [walkF_cons, if_neg (by decide), if_pos rfl, if_pos (show (4 :: st).head? = some 4 from rfl)]; rfl
theorem walkF_bad {l : List Nat} {i : Nat} {st : List Nat} (h : st.head? ≠ some 4) : walkF (5 :: l) i st = 0 := by rw [walkF_cons, if_neg (by decide), if_pos rfl, if_neg h]
theorem walkF_last {l : List Nat} {i : Nat} : walkF (11 :: l) i [] = i + 1 := by rw [walkF_cons, if_neg (by decide), if_neg (by decide), if_pos rfl, if_pos rfl]
theorem walkF_end {l : List Nat} {i x : Nat} {st : List Nat} : walkF (11 :: l) i (x :: st) = walkF l (i + 1) st := by rw [walkF_cons, if_neg (by decide), if_neg (by decide), if_pos rfl, if_neg (by simp)]; rfl
theorem walkF_plain {op : Nat} {l : List Nat} {i : Nat} {st : List Nat} (h : ¬ (2 ≤ op ∧ op ≤ 4)) (h5 : ¬ op = 5) (h11 : ¬ op = 11) : walkF (op :: l) i st = walkF l (i + 1) st := by rw [walkF_cons, if_neg h, if_neg h5, if_neg h11]
theorem walkF_le (l : List Nat) : ∀ (i : Nat) (st : List Nat), walkF l i st ≤ i + l.length := by
  induction l with
  | nil => intro i st; rw [walkF_nil]; omega
  | cons op l ih =>
    intro i st
    rw [walkF_cons, List.length_cons]
    have h1 := fun st => ih (i + 1) st
    have h2 := h1 (op :: st)
    have h3 := h1 (5 :: st.tail)
    have h4 := h1 st.tail
    have h5 := h1 st
    split
    · omega
    · split
      · split <;> omega
      · split
        · split <;> omega
        · omega
/-- The open blocks as the program keeps them: the outermost first, behind a nought. -/
def skk (st : List Nat) : List UInt8 := UInt8.ofNat 0 :: (st.reverse.map UInt8.ofNat)
theorem skk_len (st : List Nat) : (skk st).length = st.length + 1 := by simp [skk]
theorem skk_push (op : Nat) (st : List Nat) : skk (op :: st) = skk st ++ [UInt8.ofNat op] := by simp [skk]
theorem skk_pop (op : Nat) (st : List Nat) : (u8s (skk (op :: st))).take (st.length + 1) = u8s (skk st) := by
  rw [skk_push, u8s_append]
  exact List.take_left' (by rw [u8s, List.length_map, skk_len])
theorem skk_top (op : Nat) (st : List Nat) (h : op < 256) : (u8s (skk (op :: st)))[st.length + 1]? = some (.int .u8 (op : Int)) := by
  rw [skk_push, u8s_append, List.getElem?_append_right (by rw [u8s, List.length_map, skk_len]; exact Nat.le_refl _), byte_cell op h]
  simp [u8s, skk_len]
theorem skk_bot : (u8s (skk []))[0]? = some (.int .u8 0) := by rw [skk]; rfl
theorem skk_set (op : Nat) (st : List Nat) : (u8s (skk (op :: st))).set (st.length + 1) (.int .u8 5) = u8s (skk (5 :: st)) := by
  rw [skk_push, skk_push, u8s_append, u8s_append, List.set_append_right _ _ (by rw [u8s, List.length_map, skk_len]; exact Nat.le_refl _)]
  simp [u8s, skk_len]
end Go.Proofs.Ytpebdfgfikjkeaa
/-! instr: Shape of any row. -/
namespace Go.Proofs.Ytpebdfgfikjkeaa
open Go.RowKit

/-- An instruction, as a record. -/
structure Ig where
  op : Nat
  a : Nat
  b : Nat
  n : Nat
  c : Nat
  A : Option Addr
  L : List Nat
instance : Inhabited Ig := ⟨⟨0, 0, 0, 0, 0, none, []⟩⟩
def Ig.cells (x : Ig) : List Value := (insC (x.op : Int) (x.a : Int) (x.b : Int) x.A x.n x.c).toList
theorem Ig.four (x : Ig) : x.cells.length = 4 := rfl
def igs (l : List Ig) : List Value := l.flatMap Ig.cells
theorem igs_append (l m : List Ig) : igs (l ++ m) = igs l ++ igs m := by simp [igs]
def opsL (l : List Ig) : List Nat := l.map Ig.op
theorem ops_drop (l : List Ig) (j : Nat) (h : j < l.length) : (opsL l).drop j = l[j].op :: (opsL l).drop (j + 1) := by
  rw [opsL, List.drop_eq_getElem_cons (by rw [List.length_map]; exact h), List.getElem_map]
def shpF (l : List Ig) : Nat := if walkF (opsL l) 0 [] = l.length ∧ ¬ l.length = 0 then 0 else 30

set_option maxRecDepth 100000 in
set_option maxHeartbeats 6400000 in
theorem shape_walk (w : World) (n c : Nat) (A : Option Addr) (l : List Ig) (S : Nat → Prop) (HN : Hid (n = l.length)) (hnb : n ≤ 1000) (hop : ∀ x ∈ l, x.op < 256) (hr : Reads w S 4 A n (igs l)) :
    Calls Try.prog 44 #[.slice A n c] w fun e w' => e = .returned (.int .i64 (shpF l : Nat)) ∧ Step (fun _ => False) w w' := by
  have HR := Lib.hid hr
  have HOP := Lib.hid hop
  have g0 : ¬ (20000 : Int) < (n : Int) := by omega
  obtain ⟨R, hR⟩ : ∃ R, R = shpF l := ⟨_, rfl⟩
  rw [← hR]
  have HSh := Lib.hid hR
  clear hr hop hR
  have HO0 : Hid ((w.alloc (.cells #[.int .u8 0] 5)).ownsRow w.heap.size 5 1 (.slice (some ⟨w.heap.size, 0, none⟩) 1 1) 1 (u8s (skk []))) :=
    World.ownsRow_lit (base := w.heap.size) (e := 5) (size := 1) w #[Value.int .u8 0] 1 (Nat.le_refl _) (by decide) rfl
  have HS0 := Lib.hid ((Step.refl (F := fun _ => False)).alloc (w := w) (.cells #[.int .u8 0] 5))
  go_enter Try.func44, Try.ntmps44
  go_wp2_with fail
  go_loopw [3, 12] (fun ov iv wr => ∃ (j c2 : Nat) (g : Nat) (st : List Nat), j ≤ n ∧ ov = .slice (some ⟨g, 0, none⟩) (st.length + 1) c2 ∧ iv = .int .i64 (j : Int) ∧ Hid (walkF ((opsL l).drop j) j st = walkF (opsL l) 0 []) ∧ st.length ≤ j ∧ Hid (∀ x ∈ st, x < 256) ∧ Hid (Step (fun _ => False) w wr) ∧
    Hid (wr.ownsRow w.heap.size 5 1 (.slice (some ⟨g, 0, none⟩) (st.length + 1) c2) (st.length + 1) (u8s (skk st)))) (fun _ iv _ => n + 1 - (intOf iv).toNat)
  case atStart => exact ⟨0, 1, w.heap.size, [], by omega, rfl, rfl, by rw [Hid, List.drop_zero], by simp, (fun x hx => by cases hx), HS0, HO0⟩
  case round =>
    obtain ⟨j, c2, g, st, hj, rfl, rfl, HI, hsl, HB, HS, HO⟩ := hrel
    by_cases hlt : j < n
    · have g1 : (j : Int) < (n : Int) := by omega
      have i0 : (0 : Int) ≤ (j : Int) := by omega
      have hw1 := IntWalk.i64_in ((j : Int) + 1) (by omega)
      have hjl : j < l.length := by rw [← HN.out]; exact hlt
      obtain ⟨bk, off, rfl, _, hbl, hc⟩ := reads_row Ig.cells 4 (by decide) Ig.four (HR.out.step HS.out (fun _ _ => id)) (k := j) hjl
      have hx := HOP.out l[j] (List.getElem_mem hjl)
      have hI := HI.out
      rw [ops_drop l j hjl] at hI
      obtain ⟨x, hxe⟩ : ∃ x, x = l[j] := ⟨_, rfl⟩
      rw [← hxe] at hx hc hI
      clear hxe HI
      obtain ⟨op, a, b, m, cc, B, L⟩ := x
      have c0 := hc 0 _ rfl
      have c1 := hc 1 _ rfl
      have c2' := hc 2 _ rfl
      have c3 := hc 3 _ rfl
      simp only [Nat.add_zero] at c0
      simp only at hx c0 c1 c2' c3 hI
      have HI := Lib.hid hI
      clear hc hI
      have HOp : Hid (∀ w, Calls Try.prog 63 #[.int .u8 (op : Int)] w fun e w' => e = .returned (.bool (decide (2 ≤ op) && decide (op ≤ 4))) ∧ w' = w) := fun w => opens_walk w op hx
      obtain ⟨G, hG⟩ : ∃ G, G = (some ⟨g, 0, none⟩ : Option Addr) := ⟨_, rfl⟩
      by_cases h24 : 2 ≤ op ∧ op ≤ 4
      · have hd : (decide (2 ≤ op) && decide (op ≤ 4)) = true := by simp [h24]
        rw [hd] at HOp
        have HI2 : Hid (walkF ((opsL l).drop (j + 1)) (j + 1) (op :: st) = walkF (opsL l) 0 []) := by rw [Hid, ← HI.out, walkF_open h24]
        have HB2 : Hid (∀ x ∈ op :: st, x < 256) := fun x hx' => by
          rcases List.mem_cons.1 hx' with rfl | hx'
          · exact hx
          · exact HB.out x hx'
        have HBy := Lib.hid (byte_cell op hx)
        have HOa := Lib.hid ((HO.out.alloc (.cells #[.int .u8 (op : Int), .int .u64 (a : Int), .int .u64 (b : Int), .slice B m cc] 40)).alloc (.cells #[.int .u8 (op : Int)] 5))
        have HSa := Lib.hid ((HS.out.alloc (.cells #[.int .u8 (op : Int), .int .u64 (a : Int), .int .u64 (b : Int), .slice B m cc] 40)).alloc (.cells #[.int .u8 (op : Int)] 5))
        have hrn := reads_new (wr.alloc (.cells #[.int .u8 (op : Int), .int .u64 (a : Int), .int .u64 (b : Int), .slice B m cc] 40)) #[Value.int .u8 (op : Int)] 5 1 1 rfl
        rw [show (wr.alloc (.cells #[.int .u8 (op : Int), .int .u64 (a : Int), .int .u64 (b : Int), .slice B m cc] 40)).heap.size = wr.heap.size + 1 by simp] at hrn
        have hone : ∀ u ∈ #[Value.int .u8 (op : Int)].toList, u.oneCell' = true := by simp [Value.oneCell']
        have hm : st.length + 1 + 1 ≤ maxLen := by unfold maxLen; omega
        have hsz := HSa.out.size
        clear hd HI
        go_wp2_with fail
        refine (HOp.out _).mono ?_
        rintro e wS ⟨rfl, rfl⟩
        go_wp2_with (at_builtin; refine wpList_append_src _ rfl _ _ (by rfl) E_u8 (by rfl) HOa.out (by rfl) hrn hone hm (by omega) hsz ?_; intro D9 c9 w9 hown hgrow hat)
        have HS9 := Lib.hid (grow_step HSa.out hgrow HOa.out (Nat.le_refl _))
        have hcs : u8s (skk st) ++ #[Value.int .u8 (op : Int)].toList = u8s (skk (op :: st)) := by rw [skk_push, u8s_append, HBy.out]
        rw [hcs] at hown
        obtain ⟨g9, hg9⟩ : ∃ g9, D9 = some ⟨g9, 0, none⟩ := by
          obtain ⟨g9, cap, hv, _⟩ := hown.form (by omega)
          injection hv with hv
          exact ⟨g9, hv⟩
        subst hg9
        go_roundw
        case rel => exact ⟨j + 1, c9, g9, op :: st, by omega, rfl, by rw [Int.natCast_add]; rfl, HI2, by simp; omega, HB2, HS9, hown⟩
        case measure => simp [intOf]; omega
      · have hd : (decide (2 ≤ op) && decide (op ≤ 4)) = false := by
          cases hq : (decide (2 ≤ op) && decide (op ≤ 4)) with
          | false => rfl
          | true =>
            simp only [Bool.and_eq_true, decide_eq_true_eq] at hq
            exact absurd hq h24
        rw [hd] at HOp
        clear hd
        have HSb := Lib.hid (HS.out.alloc (.cells #[.int .u8 (op : Int), .int .u64 (a : Int), .int .u64 (b : Int), .slice B m cc] 40))
        have HOb := Lib.hid (HO.out.alloc (.cells #[.int .u8 (op : Int), .int .u64 (a : Int), .int .u64 (b : Int), .slice B m cc] 40))
        by_cases h11 : op = 11
        · subst h11
          cases st with
          | nil =>
            have hR2 : Hid (R = if j = n - 1 then 0 else 30) := by
              have h1 := HI.out
              rw [walkF_last] at h1
              rw [Hid, HSh.out, shpF, ← h1, ← HN.out]
              by_cases h2 : j = n - 1
              · rw [if_pos h2, if_pos ⟨by omega, by omega⟩]
              · rw [if_neg h2, if_neg (by rintro ⟨h3, _⟩; omega)]
            have hwn := IntWalk.i64_in ((n : Int) - 1) (by omega)
            have HE : Hid (∀ w b, Calls Try.prog 64 #[.bool b] w fun e w' => e = .returned (.int .i64 (if b then 0 else 30 : Nat)) ∧ w' = w) := fun w b => ended_walk w b
            clear HI
            by_cases h2 : j = n - 1
            · have h3 : ((j : Int) == (n : Int) - 1) = true := by simp; omega
              have hR3 : R = 0 := by rw [hR2.out, if_pos h2]
              clear hR2 h2
              subst hR3
              go_wp2_with fail
              refine (HOp.out _).mono ?_
              rintro e wS ⟨rfl, rfl⟩
              go_wp2_with fail
              refine (HE.out _ _).mono ?_
              rintro e wS ⟨rfl, rfl⟩
              go_wp2_with fail
              go_ret
              exact ⟨rfl, HSb.out⟩
            · have h3 : ((j : Int) == (n : Int) - 1) = false := by simp; omega
              have hR3 : R = 30 := by rw [hR2.out, if_neg h2]
              clear hR2 h2
              subst hR3
              go_wp2_with fail
              refine (HOp.out _).mono ?_
              rintro e wS ⟨rfl, rfl⟩
              go_wp2_with fail
              refine (HE.out _ _).mono ?_
              rintro e wS ⟨rfl, rfl⟩
              go_wp2_with fail
              go_ret
              exact ⟨rfl, HSb.out⟩
          | cons y st =>
            have HI2 : Hid (walkF ((opsL l).drop (j + 1)) (j + 1) st = walkF (opsL l) 0 []) := by rw [Hid, ← HI.out, walkF_end]
            have hlc : (y :: st).length = st.length + 1 := rfl
            rw [hlc] at HOb hsl ⊢
            have hcap := own_cap HOb.out
            have hO2 := own_take HOb.out (k := st.length + 1) (by omega)
            rw [Nat.mul_one, skk_pop] at hO2
            have hwl := IntWalk.i64_in ((st.length : Int) + 1) (by omega)
            have sh := slice_hn E_u8 (some ⟨g, 0, none⟩) (st.length + 1 + 1) c2 .i64 ((st.length : Int) + 1) (st.length + 1) (by omega) (by omega)
            have hB2 : Hid (∀ x ∈ st, x < 256) := fun x hx' => HB.out x (List.mem_cons_of_mem _ hx')
            have hHO2 := Lib.hid hO2
            have hz0 : ((st.length : Int) + 1 == 0) = false := by simp; omega
            clear HI hcap hO2 hlc
            go_wp2_with fail
            refine (HOp.out _).mono ?_
            rintro e wS ⟨rfl, rfl⟩
            go_wp2_with fail
            go_roundw
            case rel => exact ⟨j + 1, c2, g, st, by omega, rfl, by rw [Int.natCast_add]; rfl, HI2, by omega, hB2, HSb, hHO2.out⟩
            case measure => simp [intOf]; omega
        by_cases h5 : op = 5
        · subst h5
          cases st with
          | nil =>
            have hz : R = 30 := by
              have h1 := HI.out
              rw [walkF_bad (by simp)] at h1
              rw [HSh.out, shpF, ← h1, if_neg (by rintro ⟨h2, h3⟩; exact h3 h2.symm)]
            subst hz
            have hcc : wr.cell? ⟨g, 0, none⟩ = some (.int .u8 0) ∧ g < wr.heap.size := by
              obtain ⟨ad, u, e1, _, hgl, hu, hc⟩ := (Reads.of_own HO.out).at_ (k := 0) (by simp)
              injection e1 with e1
              subst e1
              rw [skk_bot] at hu
              injection hu with hu
              subst hu
              exact ⟨hc, hgl⟩
            obtain ⟨cc0, hgl⟩ := hcc
            clear HI
            go_wp2_with fail
            refine (HOp.out _).mono ?_
            rintro e wS ⟨rfl, rfl⟩
            go_wp2_with fail
            go_ret
            exact ⟨rfl, HSb.out⟩
          | cons y st =>
            have hlc : (y :: st).length = st.length + 1 := rfl
            have hy := HB.out y (List.mem_cons_self ..)
            have hcc : wr.cell? ⟨g, st.length + 1, none⟩ = some (.int .u8 (y : Int)) ∧ g < wr.heap.size := by
              obtain ⟨ad, u, e1, _, hgl, hu, hc⟩ := (Reads.of_own HO.out).at_ (k := st.length + 1) (by rw [hlc]; omega)
              injection e1 with e1
              subst e1
              rw [skk_top y st hy] at hu
              injection hu with hu
              subst hu
              rw [Addr.add_lit, Nat.zero_add] at hc
              exact ⟨hc, hgl⟩
            have hfz : wr.frozen? ⟨g, st.length + 1, none⟩ = false := by
              rcases HO.out.2 with ⟨hv, _⟩ | ⟨g', cap, cur, hv, _, hh, _⟩
              · cases hv
              · injection hv with e1
                injection e1 with e1
                injection e1 with e1
                subst e1
                exact Blk.frozen (cs := cur) (t := 5) hh _
            have hge : w.heap.size ≤ g := own_ge HO.out g rfl
            obtain ⟨cc0, hgl⟩ := hcc
            rw [hlc] at HOb hsl ⊢
            have hwl := IntWalk.i64_in ((st.length : Int) + 1) (by omega)
            have k0 : (0 : Int) ≤ (st.length : Int) + 1 := by omega
            have k1 : (st.length : Int) + 1 < (st.length : Int) + 1 + 1 := by omega
            by_cases h4 : y = 4
            · subst h4
              have HI2 : Hid (walkF ((opsL l).drop (j + 1)) (j + 1) (5 :: st) = walkF (opsL l) 0 []) := by rw [Hid, ← HI.out, walkF_else]
              have HO1 := HO.out
              rw [hlc] at HO1
              have HOc := own_setAt (j := st.length + 1) (u := .int .u8 5) HO1 (by rw [u8s, List.length_map, skk_len]; simp)
              rw [skk_set] at HOc
              have HOd := Lib.hid (HOc.alloc (.cells #[.int .u8 5, .int .u64 (a : Int), .int .u64 (b : Int), .slice B m cc] 40))
              have HSd := Lib.hid ((HS.out.setCell (p := ⟨g, st.length + 1, none⟩) (.inr hge) (.int .u8 5)).alloc (.cells #[.int .u8 5, .int .u64 (a : Int), .int .u64 (b : Int), .slice B m cc] 40))
              have hB2 : Hid (∀ x ∈ 5 :: st, x < 256) := fun x hx' => by
                rcases List.mem_cons.1 hx' with rfl | hx'
                · decide
                · exact HB.out x (List.mem_cons_of_mem _ hx')
              clear HI HOc hlc HO1
              go_wp2_with fail
              refine (HOp.out _).mono ?_
              rintro e wS ⟨rfl, rfl⟩
              go_wp2_with fail
              go_roundw
              case rel => exact ⟨j + 1, c2, g, 5 :: st, by omega, rfl, by rw [Int.natCast_add]; rfl, HI2, by simp; omega, hB2, HSd, HOd.out⟩
              case measure => simp [intOf]; omega
            · have hz : R = 30 := by
                have h1 := HI.out
                rw [walkF_bad (by simp; exact h4)] at h1
                rw [HSh.out, shpF, ← h1, if_neg (by rintro ⟨h2, h3⟩; exact h3 h2.symm)]
              subst hz
              have hq : ((y : Int) != 4) = true := bne_iff_ne.2 (by omega)
              clear HI hlc
              go_wp2_with fail
              refine (HOp.out _).mono ?_
              rintro e wS ⟨rfl, rfl⟩
              go_wp2_with fail
              go_ret
              exact ⟨rfl, HSb.out⟩
        · have HI2 : Hid (walkF ((opsL l).drop (j + 1)) (j + 1) st = walkF (opsL l) 0 []) := by rw [Hid, ← HI.out, walkF_plain h24 h5 h11]
          have n5 : ((op : Int) == 5) = false := by simp; omega
          have n11 : ((op : Int) == 11) = false := by simp; omega
          have m5 : ¬ (op : Int) = 5 := by omega
          have m11 : ¬ (op : Int) = 11 := by omega
          clear HI h24 h5 h11
          go_wp2_with fail
          refine (HOp.out _).mono ?_
          rintro e wS ⟨rfl, rfl⟩
          go_wp2_with fail
          go_roundw
          case rel => exact ⟨j + 1, c2, g, st, by omega, rfl, by rw [Int.natCast_add]; rfl, HI2, by omega, HB, HSb, HOb.out⟩
          case measure => simp [intOf]; omega
    · obtain rfl : j = n := by omega
      have hz : R = 30 := by
        have h1 := HI.out
        rw [List.drop_eq_nil_of_le (by rw [opsL, List.length_map, HN.out]; exact Nat.le_refl _), walkF_nil] at h1
        rw [HSh.out, shpF, ← h1, if_neg (by rintro ⟨h2, h3⟩; exact h3 h2.symm)]
      subst hz
      go_wp2_with fail
      go_ret
      exact ⟨rfl, HS.out⟩

/-- The first of the locals' types that may not be. -/
def errT : List (Nat × Nat) → Nat
  | [] => 0
  | g :: l => if valF g.2 = 0 then errT l else valF g.2
theorem errT_cons (g : Nat × Nat) (l : List (Nat × Nat)) : errT (g :: l) = if valF g.2 = 0 then errT l else valF g.2 := rfl
theorem errT_all (l : List (Nat × Nat)) (h : errT l = 0) : ∀ g ∈ l, valF g.2 = 0 := by
  induction l with
  | nil => intro g hg; cases hg
  | cons a l ih =>
    rw [errT_cons] at h
    by_cases ha : valF a.2 = 0
    · rw [if_pos ha] at h
      intro g hg
      rcases List.mem_cons.1 hg with rfl | hg
      · exact ha
      · exact ih h g hg
    · rw [if_neg ha] at h
      exact absurd h ha
def shpC (lo : List (Nat × Nat)) (l : List Ig) : Nat := if locF lo 0 = none then 23 else if errT lo = 0 then shpF l else errT lo

set_option maxRecDepth 100000 in
set_option maxHeartbeats 3200000 in
theorem bright_walk (w : World) (LA IA : Option Addr) (lc n c : Nat) (lo : List (Nat × Nat)) (l : List Ig) (S : Nat → Prop) (HN : Hid (n = l.length)) (hnb : n ≤ 1000) (hop : ∀ x ∈ l, x.op < 256) (hr : Reads w S 4 IA n (igs l)) (hl : Reads w S 2 LA lo.length (lo.flatMap loC)) (hb : ∀ g ∈ lo, g.1 < 4294967296 ∧ g.2 < 256) (hlo : lo.length ≤ 1000) :
    Calls Try.prog 13 #[.agg #[.slice LA lo.length lc, .slice IA n c]] w fun e w' => e = .returned (.int .i64 (shpC lo l : Nat)) ∧ Step (fun _ => False) w w' := by
  have HR := Lib.hid (hr.step (Step.refl.alloc (F := fun _ => False) (.cells #[.slice LA lo.length lc, .slice IA n c] 32)) (fun _ _ => id))
  have HL := Lib.hid (hl.step (Step.refl.alloc (F := fun _ => False) (.cells #[.slice LA lo.length lc, .slice IA n c] 32)) (fun _ _ => id))
  have HB := Lib.hid (Blk.new w 32 #[.slice LA lo.length lc, .slice IA n c])
  have HT := Lib.hid (Step.refl.alloc (F := fun _ => False) (w := w) (.cells #[.slice LA lo.length lc, .slice IA n c] 32))
  have HBd := Lib.hid hb
  have HOp := Lib.hid hop
  have g10 : ¬ (10000 : Int) < (lo.length : Int) := by omega
  obtain ⟨R, hR⟩ : ∃ R, R = shpC lo l := ⟨_, rfl⟩
  rw [← hR]
  have HR0 := Lib.hid hR
  clear hR
  clear hr hl hb hop
  go_enter Try.func13, Try.ntmps13
  go_wp2_with fail
  obtain ⟨W, hW⟩ : ∃ W, W = w.alloc (.cells #[.slice LA lo.length lc, .slice IA n c] 32) := ⟨_, rfl⟩
  rw [← hW] at HR HB HT HL ⊢
  obtain ⟨X, hX⟩ : ∃ X, X = w.heap.size := ⟨_, rfl⟩
  rw [← hX] at HB ⊢
  clear hW hX
  refine (count_walk W LA lc lo S HL.out (fun g hg => (HBd.out g hg).1) (by omega)).mono ?_
  rintro e w5 ⟨rfl, hS5⟩
  by_cases hcn : locF lo 0 = none
  · rw [hcn]
    have HR2 : Hid (R = 23) := by rw [Hid, HR0.out, shpC, if_pos hcn]
    simp only [cntV]
    clear hcn
    go_wp2_with fail
    go_ret
    exact ⟨by rw [HR2.out]; rfl, HT.out.trans hS5⟩
  obtain ⟨v, hv⟩ : ∃ v, locF lo 0 = some v := by
    cases h : locF lo 0 with
    | none => exact absurd h hcn
    | some v => exact ⟨v, rfl⟩
  have HC : Hid (R = if errT lo = 0 then shpF l else errT lo) := by rw [Hid, HR0.out, shpC, if_neg hcn]
  rw [hv]
  simp only [cntV]
  have HS5 := Lib.hid hS5
  have x0 := (HB.out.step HS5.out id).cell 0
  simp at x0
  clear hv hcn hS5
  go_wp2_with fail
  clear x0
  go_loopw [24] (fun iv wr => ∃ (j : Nat), j ≤ lo.length ∧ iv = .int .i64 (j : Int) ∧ Hid (errT (lo.drop j) = errT lo) ∧ Hid (Step (fun _ => False) W wr)) (fun iv _ => lo.length + 1 - (intOf iv).toNat)
  case atStart => exact ⟨0, by omega, rfl, rfl, HS5⟩
  case round =>
    obtain ⟨j, hj, rfl, HI, HS⟩ := hrel
    have x1 := (HB.out.step HS.out id).cell 1
    simp at x1
    by_cases hlt : j < lo.length
    · have g1 : (j : Int) < (lo.length : Int) := by omega
      have i0 : (0 : Int) ≤ (j : Int) := by omega
      have hw1 := IntWalk.i64_in ((j : Int) + 1) (by omega)
      obtain ⟨bk, off, rfl, _, hbl, hc⟩ := st_cells loC 2 (by decide) (fun _ => rfl) (HL.out.step HS.out (fun _ _ => id)) hlt
      have hg := HBd.out lo[j] (List.getElem_mem hlt)
      have hI := HI.out
      rw [List.drop_eq_getElem_cons hlt, errT_cons] at hI
      generalize lo[j] = g at *
      obtain ⟨gn, gt⟩ := g
      have c0 := hc 0 _ rfl
      have c1 := hc 1 _ rfl
      simp only [Nat.add_zero] at c0
      simp only at c0 c1 hg hI
      have HV : Hid (∀ w, Calls Try.prog 43 #[.int .u8 (gt : Int)] w fun e w' => e = .returned (.int .i64 (valF gt : Nat)) ∧ w' = w) := fun w => value_walk w gt (by omega)
      obtain ⟨r, hr⟩ : ∃ r : Int, r = (valF gt : Nat) := ⟨_, rfl⟩
      rw [← hr] at HV
      by_cases hz : valF gt = 0
      · have hr0 : r = 0 := by omega
        rw [if_pos hz] at hI
        have HI2 := Lib.hid hI
        subst hr0
        clear hc hz hI HI hr
        go_wp2_with fail
        refine (HV.out _).mono ?_
        rintro e w6 ⟨rfl, hw6⟩
        subst w6
        go_wp2_with fail
        go_roundw
        case rel => exact ⟨j + 1, by omega, by rw [Int.natCast_add]; rfl, HI2, HS.out.alloc _⟩
        case measure => simp [intOf]; omega
      · have hne : ¬ r = 0 := by omega
        have hnb2 : (r != 0) = true := bne_iff_ne.2 hne
        rw [if_neg hz] at hI
        have HQ : Hid ((R : Int) = r) := by rw [Hid, HC.out, if_neg (by rw [← hI]; exact hz), ← hI, hr]
        clear hc hz hI HI hr
        go_wp2_with fail
        refine (HV.out _).mono ?_
        rintro e w6 ⟨rfl, hw6⟩
        subst w6
        go_wp2_with fail
        go_ret
        exact ⟨by rw [HQ.out]; rfl, (HT.out.trans HS.out).alloc _⟩
    · obtain rfl : j = lo.length := by omega
      have hI := HI.out
      rw [List.drop_length] at hI
      have HQ : Hid (R = shpF l) := by rw [Hid, HC.out, if_pos (by rw [← hI]; rfl)]
      clear hI
      go_wp2_with fail
      refine (shape_walk wr n c IA l S HN hnb HOp.out (HR.out.step HS.out (fun _ _ => id))).mono ?_
      rintro e w7 ⟨rfl, hS7⟩
      go_wp2_with fail
      go_ret
      exact ⟨by rw [HQ.out]; rfl, (HT.out.trans HS.out).trans hS7⟩



def ptL (ps : List UInt8) (l : List (Nat × Nat)) (k : Nat) : List UInt8 := ps ++ loT (l.take k)
def repL (T : List UInt8) (j t : Nat) : List UInt8 := T ++ List.replicate j (UInt8.ofNat t)
theorem ptL_zero (ps : List UInt8) (l : List (Nat × Nat)) : ptL ps l 0 = ps := by simp [ptL, loT]
theorem ptL_all (ps : List UInt8) (l : List (Nat × Nat)) : ptL ps l l.length = ps ++ loT l := by simp [ptL]
theorem ptL_succ (ps : List UInt8) (l : List (Nat × Nat)) (k : Nat) (h : k < l.length) : ptL ps l (k + 1) = repL (ptL ps l k) l[k].1 l[k].2 := by rw [ptL, loT_take l k h, repL, ptL, List.append_assoc]
theorem ptL_len (ps : List UInt8) (l : List (Nat × Nat)) (k : Nat) : (ptL ps l k).length ≤ ps.length + (loT l).length := by
  have := loT_short l k
  rw [ptL, List.length_append]
  omega
theorem repL_zero (T : List UInt8) (t : Nat) : repL T 0 t = T := by simp [repL]
theorem repL_succ (T : List UInt8) (j t : Nat) : repL T (j + 1) t = repL T j t ++ [UInt8.ofNat t] := by rw [repL, List.replicate_succ', repL, List.append_assoc]
theorem repL_len (T : List UInt8) (j t : Nat) : (repL T j t).length = T.length + j := by simp [repL]

theorem make_bytes (w : World) (C : Int) (n : Nat) (hC : C = n) (hn : n ≤ 1000000) :
    (Instr.makeSlice 107 (.int .i64 0) (.int .i64 C)).run Try.prog w = .ok (.slice (some ⟨w.heap.size, 0, none⟩) 0 n) (w.alloc (.cells (madeCells #[.int .u8 0] n) 5)) := by
  subst hC
  obtain ⟨ht, _, i, z, hi, hz, hs, hby, hzs⟩ := E_u8
  have h := run_make (P := Try.prog) w 107 5 i z ht hi hz .i64 .i64 0 n (Int.le_refl _) (by omega) (by rw [hby]; omega) (by omega)
  have hz0 : z = .int .u8 0 := by
    have h1 : (Try.prog.info? 5).map (fun i => i.zero) = some (some (.int .u8 0)) := by kernel_rfl
    rw [hi] at h1
    simp only [Option.map_some, Option.some.injEq] at h1
    rw [hz] at h1
    exact Option.some.inj h1
  subst hz0
  simpa [hs, Value.cells] using h
theorem own_bytes (w : World) (n : Nat) (hn : n ≤ 1000000) (base : Nat) (hb : base ≤ w.heap.size) :
    (w.alloc (.cells (madeCells #[.int .u8 0] n) 5)).ownsRow base 5 1 (.slice (some ⟨w.heap.size, 0, none⟩) 0 n) 0 [] :=
  World.ownsRow_made w _ n hb (by unfold maxLen; omega) (by rw [size_madeCells]; omega)

set_option maxRecDepth 100000 in
set_option maxHeartbeats 1600000 in
theorem types_err (w : World) (B : Option Addr) (cc : Nat) (l : List (Nat × Nat)) (S : Nat → Prop) (hr : Reads w S 2 B l.length (l.flatMap loC)) (hb : ∀ g ∈ l, g.1 < 4294967296) (hl : l.length ≤ 100000)
    (ps rs : ByteArray) (h : locF l 0 = none) :
    Calls Try.prog 14 #[.agg #[.string ps, .string rs], .slice B l.length cc] w fun e w' => e = .returned (.tuple #[.string ⟨#[]⟩, .int .i64 23]) ∧ Step (fun _ => False) w w' := by
  have HC : Hid (∀ w', Step (fun _ => False) w w' → Calls Try.prog 42 #[.slice B l.length cc] w' fun e w'' => e = .returned (.tuple #[.int .i64 0, .int .i64 23]) ∧ Step (fun _ => False) w' w'') := fun w' hs => by
    have := count_walk w' B cc l S (hr.step hs (fun _ _ => id)) hb hl
    rw [h] at this
    exact this
  clear hr hb
  go_enter Try.func14, Try.ntmps14
  go_wp2_with fail
  refine (HC.out _ (Step.refl.alloc _)).mono ?_
  rintro e w5 ⟨rfl, hS5⟩
  have HS5 := Lib.hid ((Step.refl.alloc _).trans hS5)
  clear hS5 HC
  go_wp2_with fail
  go_ret2
  exact ⟨rfl, HS5.out⟩

set_option maxRecDepth 100000 in
set_option maxHeartbeats 3200000 in
theorem types_ok (w : World) (B : Option Addr) (cc : Nat) (l : List (Nat × Nat)) (S : Nat → Prop) (hr : Reads w S 2 B l.length (l.flatMap loC)) (hb : ∀ g ∈ l, g.1 < 4294967296 ∧ g.2 < 256) (hl : l.length ≤ 100000)
    (ps : List UInt8) (rs : ByteArray) (hps : ps.length ≤ 1000) (n : Nat) (h : locF l 0 = some n) :
    Calls Try.prog 14 #[.agg #[.string (str ps), .string rs], .slice B l.length cc] w fun e w' => e = .returned (.tuple #[.string (str (ps ++ loT l)), .int .i64 0]) ∧ Step (fun _ => False) w w' := by
  have HC : Hid (∀ w', Step (fun _ => False) w w' → Calls Try.prog 42 #[.slice B l.length cc] w' fun e w'' => e = .returned (.tuple #[.int .i64 (n : Int), .int .i64 0]) ∧ Step (fun _ => False) w' w'') := fun w' hs => by
    have := count_walk w' B cc l S (hr.step hs (fun _ _ => id)) (fun g hg => (hb g hg).1) hl
    rw [h] at this
    exact this
  have hn := locF_le l 0 n (by omega) h
  have HZ := Lib.hid (ptL_all ps l)
  obtain ⟨Z, hZ⟩ : ∃ Z, Z = ps ++ loT l := ⟨_, rfl⟩
  rw [← hZ] at HZ ⊢
  clear hZ
  have hsz := str_size ps
  have hw0 := IntWalk.i64_in ((ps.length : Int) + (n : Int)) (by omega)
  go_enter Try.func14, Try.ntmps14
  go_wp2_with fail
  refine (HC.out _ (Step.refl.alloc _)).mono ?_
  rintro e w5 ⟨rfl, hS5⟩
  have HB5 := Lib.hid ((Blk.new w 28 #[.string (str ps), .string rs]).step hS5 id)
  have HS5 := Lib.hid ((Step.refl.alloc _).trans hS5)
  clear hS5 HC
  obtain ⟨X, hX⟩ : ∃ X, X = w.heap.size := ⟨_, rfl⟩
  rw [← hX] at HB5 ⊢
  have hXl := HB5.out.lt
  clear hX
  have x0 := HB5.out.cell 0
  simp at x0
  have hmk := make_bytes w5 ((ps.length : Int) + (n : Int)) (ps.length + n) (by omega) (by omega)
  have hO := own_bytes w5 (ps.length + n) (by omega) w.heap.size HS5.out.size
  have HS6 := Lib.hid (HS5.out.alloc (.cells (madeCells #[.int .u8 0] (ps.length + n)) 5))
  have hps2 : 0 + ps.length ≤ maxLen := by unfold maxLen; omega
  go_wp2_with (at_builtin; refine wpList_append_str _ rfl _ _ (by rfl) Try.underlying9 Try.underlying107 (by kernel_rfl) (by rfl) hO (by rfl) (Nat.zero_add _).symm (by unfold maxLen; omega) (by omega) HS6.out.size ?_; intro D7 c7 w7 hown7 hgrow7 hat7)
  have HS7 := Lib.hid (grow_step HS6.out hgrow7 hO (Nat.le_refl _))
  have HO7 : Hid (w7.ownsRow w.heap.size 5 1 (.slice D7 (ptL ps l 0).length c7) (ptL ps l 0).length (u8s (ptL ps l 0))) := by
    rw [Hid, ptL_zero]
    exact hown7
  have hln : ps.length = (ptL ps l 0).length := by rw [ptL_zero]
  rw [hln]
  clear hown7 hgrow7 hat7 hO hmk x0 hln hXl hsz
  go_wp2_with fail
  go_loopw [8, 31] (fun ov iv wr => ∃ (k c' : Nat) (D : Option Addr), k ≤ l.length ∧ ov = .slice D (ptL ps l k).length c' ∧ iv = .int .i64 (k : Int) ∧ Hid (Step (fun _ => False) w wr) ∧ Hid (wr.ownsRow w.heap.size 5 1 (.slice D (ptL ps l k).length c') (ptL ps l k).length (u8s (ptL ps l k)))) (fun _ iv _ => l.length + 1 - (intOf iv).toNat)
  case atStart => exact ⟨0, c7, D7, by omega, rfl, rfl, HS7, HO7⟩
  case round =>
    obtain ⟨k, c', D, hk, rfl, rfl, HS, HO⟩ := hrel
    by_cases hlt : k < l.length
    · have hlt' : (k : Int) < (l.length : Int) := by omega
      have hw1 := IntWalk.i64_in ((k : Int) + 1) (by omega)
      obtain ⟨bb, off, rfl, _, hbl, hc⟩ := st_cells loC 2 (by decide) (fun _ => rfl) (hr.step HS.out (fun _ _ => id)) hlt
      have hg := hb l[k] (List.getElem_mem hlt)
      have HT1 := Lib.hid (ptL_succ ps l k hlt)
      have hTl := ptL_len ps l (k + 1)
      rw [HT1.out, repL_len] at hTl
      obtain ⟨T, hT⟩ : ∃ T, T = ptL ps l k := ⟨_, rfl⟩
      rw [← hT] at HO HT1 hTl ⊢
      clear hT
      generalize l[k] = g at *
      obtain ⟨N, t⟩ := g
      simp only at hg HT1 hTl
      have c0 := hc 0 _ rfl
      have c1 := hc 1 _ rfl
      simp only [Nat.add_zero] at c0 c1
      clear hc
      obtain ⟨Y, hY⟩ : ∃ Y, Y = wr.heap.size := ⟨_, rfl⟩
      go_wp2_with fail
      have HB8 := Lib.hid (Blk.new wr 104 #[.int .u32 (N : Int), .int .u8 (t : Int)])
      have HS8 := Lib.hid (HS.out.alloc (.cells #[.int .u32 (N : Int), .int .u8 (t : Int)] 104))
      have HO8 := Lib.hid (HO.out.alloc (.cells #[.int .u32 (N : Int), .int .u8 (t : Int)] 104))
      rw [← hY] at HB8 ⊢
      clear HS HO c0 c1 hY
      obtain ⟨W, hW⟩ : ∃ W, W = wr.alloc (.cells #[.int .u32 (N : Int), .int .u8 (t : Int)] 104) := ⟨_, rfl⟩
      rw [← hW] at HB8 HS8 HO8 ⊢
      clear hW
      go_loopw [8, 37] (fun ov iv wr2 => ∃ (j c2 : Nat) (D2 : Option Addr), j ≤ N ∧ ov = .slice D2 (repL T j t).length c2 ∧ iv = .int .u32 (j : Int) ∧ Hid (Step (fun _ => False) w wr2) ∧ Hid (Blk wr2 Y 104 #[.int .u32 (N : Int), .int .u8 (t : Int)]) ∧ Hid (wr2.ownsRow w.heap.size 5 1 (.slice D2 (repL T j t).length c2) (repL T j t).length (u8s (repL T j t)))) (fun _ iv _ => N + 1 - (intOf iv).toNat)
      case atStart =>
        refine ⟨0, c', D, by omega, ?_, rfl, HS8, HB8, ?_⟩
        · rw [repL_zero]
        · rw [repL_zero]; exact HO8
      case round =>
        obtain ⟨j, c2, D2, hj, rfl, rfl, HS2, HB2, HO2⟩ := hrel
        by_cases hjn : j < N
        · have hjn' : (j : Int) < (N : Int) := by omega
          have hw2 := IntWalk.u32_in ((j : Int) + 1) (by omega)
          have y1 := HB2.out.cell 1
          simp at y1
          have hYl := HB2.out.lt
          obtain ⟨U, hU⟩ : ∃ U, U = repL T j t := ⟨_, rfl⟩
          have HU : Hid (repL T (j + 1) t = U ++ [UInt8.ofNat t]) := by rw [Hid, hU, repL_succ]
          have hUl : U.length ≤ 2000 := by rw [hU, repL_len]; omega
          rw [← hU] at HO2 ⊢
          clear hU
          have hm : U.length + 1 ≤ maxLen := by unfold maxLen; omega
          have hone : ∀ u ∈ #[Value.int .u8 (t : Int)].toList, u.oneCell' = true := by simp [Value.oneCell']
          have hsz2 := HS2.out.size
          go_wp2_with (at_builtin; refine wpList_append_src _ rfl _ _ (by rfl) E_u8 (by rfl) (HO2.out.alloc _) (by rfl) (reads_new _ #[Value.int .u8 (t : Int)] 5 1 1 rfl) hone hm (by omega) (by simp; omega) ?_; intro D9 c9 w9 hown9 hgrow9 hat9)
          have HS9 := Lib.hid (grow_step (HS2.out.alloc _) hgrow9 (HO2.out.alloc _) (Nat.le_refl _))
          have HB9 := Lib.hid ((HB2.out.alloc _).grown hgrow9 (by rw [← ownBlock_slice]; exact own_tag HO2.out HB2.out (by decide)))
          have hcs : u8s U ++ #[Value.int .u8 (t : Int)].toList = u8s (repL T (j + 1) t) := by rw [HU.out, u8s_append, byte_cell t hg.2]
          have hln : U.length + 1 = (repL T (j + 1) t).length := by rw [HU.out]; simp
          rw [hcs, hln] at hown9
          rw [hln]
          go_roundw
          case rel => exact ⟨j + 1, c9, D9, by omega, rfl, by rw [Int.natCast_add]; rfl, HS9, HB9, hown9⟩
          case measure => simp [intOf]; omega
        · obtain rfl : j = N := by omega
          rw [← HT1.out] at HO2 ⊢
          go_wp2_with fail
          exact ⟨⟨k + 1, c2, D2, by omega, rfl, by rw [Int.natCast_add]; rfl, HS2, HO2⟩, by rw [show intOf (.int .i64 ((k : Int) + 1)) = ((k + 1 : Nat) : Int) from rfl, show intOf (.int .i64 (k : Int)) = (k : Int) from rfl]; omega⟩
    · obtain rfl : k = l.length := by omega
      rw [HZ.out] at HO ⊢
      have hcv := conv_bytes (c := c') (Reads.of_own HO.out)
      go_wp2_with fail
      go_ret2
      exact ⟨rfl, HS.out⟩


end Go.Proofs.Ytpebdfgfikjkeaa
