/-
  ops: the reference's Of.
-/
import Derived.Test.YtfemeendkjcffaaOpC
import Derived.Test.YtfemeendkjcffaaOpF
import Derived.Test.YtfemeendkjcffaaOpG
set_option linter.unusedVariables false
set_option linter.unusedSimpArgs false
namespace Go.Proofs.Ytfemeendkjcffaa
open Go.RowKit

/-- The cells of element k of a row of structs. -/
theorem st_cells {α : Type} (c : α → List Value) (m : Nat) (hm : 0 < m) (hc : ∀ a, (c a).length = m) {w : World} {S : Nat → Prop} {A : Option Addr} {l : List α} (hv : Reads w S m A l.length (l.flatMap c)) {k : Nat} (hk : k < l.length) :
    ∃ b off, A = some ⟨b, off, none⟩ ∧ S b ∧ b < w.heap.size ∧ ∀ j u, (c l[k])[j]? = some u → w.cell? ⟨b, off + k * m + j, none⟩ = some u := by
  obtain ⟨ad, rfl, hS, hlt, hcell⟩ := hv.2 (by omega)
  have h00 := flat_get c m hc l 0 0 (by omega) hm
  rw [Nat.zero_mul] at h00
  have h01 : (c (l[0]'(by omega)))[0]? = some ((c (l[0]'(by omega)))[0]'(by rw [hc]; exact hm)) := List.getElem?_eq_getElem _
  have h0 := hcell 0 _ (h00.trans h01)
  obtain ⟨b, off, spot⟩ := ad
  have hspot : spot = none := by
    have := World.cell?_spot h0
    simpa [Addr.add] using this
  subst hspot
  refine ⟨b, off, rfl, hS, hlt, fun j u hu => ?_⟩
  have hj : j < m := by
    have := (List.getElem?_eq_some_iff.1 hu).1
    rwa [hc] at this
  have h1 := hcell (k * m + j) u (by rw [flat_get c m hc l k j hk hj]; exact hu)
  rw [Addr.add_lit] at h1
  rw [Nat.add_assoc]
  exact h1

def rrV (i : Rr) : Value := .agg #[.int .i64 i.op, .string (str i.name), .int .i64 (i.imm : Int), .string (str i.takes), .string (str i.has), .bool i.free]
def rrA (i : Rr) : Array Value := #[.int .i64 i.op, .string (str i.name), .int .i64 (i.imm : Int), .string (str i.takes), .string (str i.has), .bool i.free]
theorem rrA_one (i : Rr) : (rrA i).all (·.oneCell') = true := by simp [rrA, Value.oneCell']
def ofGo (op : Int) : Nat → Rr × Bool
  | 0 => (Rr.no, false)
  | i + 1 => if (grpT[i]?.getD Rr.no).op > op then ofGo op i else if (wordF (grpT[i]?.getD Rr.no).name (op - (grpT[i]?.getD Rr.no).op)).2 then ({ grpT[i]?.getD Rr.no with op := op, name := (wordF (grpT[i]?.getD Rr.no).name (op - (grpT[i]?.getD Rr.no).op)).1 }, true) else (Rr.no, false)
def ofR (op : Int) : Rr × Bool := ofGo op 35
theorem grp_ops (k : Nat) (h : k < 35) : 0 ≤ (grpT[k]?.getD Rr.no).op ∧ (grpT[k]?.getD Rr.no).op ≤ 255 ∧ (grpT[k]?.getD Rr.no).name.length ≤ 1000 := by
  have : ∀ k : Fin 35, 0 ≤ (grpT[k.1]?.getD Rr.no).op ∧ (grpT[k.1]?.getD Rr.no).op ≤ 255 ∧ (grpT[k.1]?.getD Rr.no).name.length ≤ 1000 := by decide
  exact this ⟨k, h⟩

set_option maxRecDepth 100000 in
set_option maxHeartbeats 1600000 in
theorem ofref_walk (w : World) (op : Int) (h : 0 ≤ op ∧ op ≤ 255) : Calls Try.prog 24 #[.int .i64 op] w fun e w' => e = .returned (.tuple #[rrV (ofR op).1, .bool (ofR op).2]) ∧ Step (fun _ => False) w w' := by
  obtain ⟨r, hr⟩ : ∃ r, r = ofR op := ⟨_, rfl⟩
  rw [← hr]
  have hr : Hid (r = ofGo op 35) := hr
  obtain ⟨N, hN⟩ : ∃ N, N = w.heap.size := ⟨_, rfl⟩
  go_enter Try.func24, Try.ntmps24
  go_wp2_with fail
  refine (groups_walk _).mono ?_
  rintro e w1 ⟨rfl, hw1⟩
  have hB1 : Blk w1 N 24 (rrA Rr.no) := by rw [hw1, hN]; exact (Blk.new w 24 (rrA Rr.no)).alloc _
  have hS1 : Step (fun _ => False) w w1 := by rw [hw1]; exact (Step.refl.alloc _).alloc _
  have hR1 : Reads w1 (fun k => k = N + 1) 6 (some ⟨N + 1, 0, none⟩) grpT.length (grpT.flatMap Rr.cells) := by
    have := reads_new (w.alloc (.cells (rrA Rr.no) 24)) grpC 24 6 35 (by kernel_rfl)
    rw [show (w.alloc (.cells (rrA Rr.no) 24)).heap.size = N + 1 by rw [hN]; simp, show grpC.toList = grpT.flatMap Rr.cells from rfl] at this
    rw [hw1]
    exact this
  have HF : Hid (Step (fun _ => False) w w1 ∧ Blk w1 N 24 (rrA Rr.no) ∧ Reads w1 (fun k => k = N + 1) 6 (some ⟨N + 1, 0, none⟩) grpT.length (grpT.flatMap Rr.cells)) := ⟨hS1, hB1, hR1⟩
  have hsz : (w.alloc (.cells #[.int .i64 0, .string ⟨#[]⟩, .int .i64 0, .string ⟨#[]⟩, .string ⟨#[]⟩, .bool false] 24)).heap.size = N + 1 := by rw [hN]; simp
  have HNw : Hid (w.heap.size ≤ N) := Nat.le_of_eq hN.symm
  rw [← hN]
  clear hw1 hB1 hS1 hR1 hN
  go_wp2_with fail
  go_loopw [5] (fun iv wr => ∃ k : Nat, k ≤ 35 ∧ iv = .int .i64 ((k : Int) - 1) ∧ Hid (r = ofGo op k) ∧ Hid (Step (fun _ => False) w wr ∧ Blk wr N 24 (rrA Rr.no) ∧ Reads wr (fun k => k = N + 1) 6 (some ⟨N + 1, 0, none⟩) grpT.length (grpT.flatMap Rr.cells))) (fun iv _ => (intOf iv + 1).toNat)
  case atStart => exact ⟨35, by omega, by rfl, hr, HF⟩
  case round =>
    obtain ⟨k, hk, rfl, HR, HQ⟩ := hrel
    cases k with
    | zero =>
      have hr0 : r = (Rr.no, false) := HR.out
      subst hr0
      have hlt : ¬ (0 : Int) ≤ ((0 : Nat) : Int) - 1 := by omega
      have hB := HQ.out.2.1
      have hz := hB.row (rrA Rr.no)
      have z0 := hz.cell 0
      have z1 := hz.cell 1
      have z2 := hz.cell 2
      have z3 := hz.cell 3
      have z4 := hz.cell 4
      have z5 := hz.cell 5
      simp [rrA] at z0 z1 z2 z3 z4 z5
      clear hz HR
      go_wp2_with first
        | (refine wpList_store_rowTo rfl 24 _ _ rfl rfl N (rrA Rr.no) rfl rfl 24 _ hB rfl rfl (rrA_one Rr.no) ?_)
      exact bodyPost_ret (v := .tuple #[rrV Rr.no, .bool false]) (by simp [results, Try.results24, go_sem, rrV, rrA, z0, z1, z2, z3, z4, z5]) rfl ⟨rfl, HQ.out.1.setRow (.inr HNw.out) _⟩
    | succ k =>
      have HR := HR.out
      rw [ofGo] at HR
      have hkl : k < grpT.length := by rw [grp_len]; omega
      have hgo := grp_ops k (by omega)
      rw [List.getElem?_eq_getElem hkl, Option.getD_some] at hgo HR
      obtain ⟨b, off, hA, hb1, hb2, hc⟩ := st_cells Rr.cells 6 (by decide) Rr.six HQ.out.2.2 hkl
      injection hA with hA
      injection hA with hA1 hA2
      subst hA1
      subst hA2
      obtain ⟨g, hg⟩ : ∃ g, g = grpT[k] := ⟨_, rfl⟩
      rw [← hg] at hgo HR hc
      have c0 := hc 0 _ rfl
      have c1 := hc 1 _ rfl
      have c2 := hc 2 _ rfl
      have c3 := hc 3 _ rfl
      have c4 := hc 4 _ rfl
      have c5 := hc 5 _ rfl
      simp only [Nat.zero_add, Nat.add_zero] at c0 c1 c2 c3 c4 c5
      have e1 : (((k + 1 : Nat) : Int) - 1) = (k : Int) := by omega
      rw [e1]
      have hk0 : (0 : Int) ≤ (k : Int) := by omega
      have hk35 : (k : Int) < 35 := by omega
      have hw1 := IntWalk.i64_in ((k : Int) - 1) (by omega)
      by_cases hgt : g.op > op
      · rw [if_pos hgt] at HR
        have HR2 : Hid (r = ofGo op k) := HR
        have hgt' : op < g.op := hgt
        clear hg hc HR hgt
        go_wp2_with fail
        go_roundw
        case rel => exact ⟨k, by omega, rfl, HR2, HQ⟩
        case measure => simp [intOf]
      · rw [if_neg hgt] at HR
        have hgt' : ¬ op < g.op := hgt
        have hw2 := IntWalk.i64_in (op - g.op) (by omega)
        obtain ⟨p, hp⟩ : ∃ p, p = wordF g.name (op - g.op) := ⟨_, rfl⟩
        rw [← hp] at HR
        have HW : Hid (∀ w : World, Calls Try.prog 135 #[.string (str g.name), .int .i64 (op - g.op)] w fun e w' => e = .returned (.tuple #[.string (str p.1), .bool p.2]) ∧ ∃ m, w' = w.drewN m) := fun w => by
          rw [hp]
          exact word_walk w g.name (op - g.op) hgo.2.2 (by omega)
        obtain ⟨nm, ok⟩ := p
        clear hg hc hgt hgo hp e1
        cases ok
        · have hr0 : r = (Rr.no, false) := HR
          subst hr0
          clear HR
          go_wp2_with fail
          go_quiet ((go_at_call 135; exact Calls.quiet_of (HW.out _)))
          have hB : Blk (wr.drewN nq) N 24 (rrA Rr.no) := HQ.out.2.1
          have hz := hB.row (rrA Rr.no)
          have z0 := hz.cell 0
          have z1 := hz.cell 1
          have z2 := hz.cell 2
          have z3 := hz.cell 3
          have z4 := hz.cell 4
          have z5 := hz.cell 5
          simp [rrA] at z0 z1 z2 z3 z4 z5
          have HS : Hid (Step (fun _ => False) w (wr.drewN nq)) := HQ.out.1.drewN nq
          clear hz
          go_wp2_with first
            | (refine wpList_store_rowTo rfl 24 _ _ rfl rfl N (rrA Rr.no) rfl rfl 24 _ hB rfl rfl (rrA_one Rr.no) ?_)
          exact bodyPost_ret (v := .tuple #[rrV Rr.no, .bool false]) (by simp [results, Try.results24, go_sem, rrV, rrA, z0, z1, z2, z3, z4, z5]) rfl ⟨rfl, HS.out.setRow (.inr HNw.out) _⟩
        · have hr0 : r = ({ g with op := op, name := nm }, true) := HR
          subst hr0
          clear HR
          go_wp2_with fail
          go_quiet ((go_at_call 135; exact Calls.quiet_of (HW.out _)))
          have HS : Hid (Step (fun _ => False) w (wr.drewN nq)) := HQ.out.1.drewN nq
          have HB : Hid (Blk (wr.drewN nq) N 24 (rrA Rr.no)) := HQ.out.2.1
          have d0 : (wr.drewN nq).cell? ⟨N + 1, k * 6, none⟩ = some (.int .i64 g.op) := c0
          have d1 : (wr.drewN nq).cell? ⟨N + 1, k * 6 + 1, none⟩ = some (.string (str g.name)) := c1
          have d2 : (wr.drewN nq).cell? ⟨N + 1, k * 6 + 2, none⟩ = some (.int .i64 (g.imm : Int)) := c2
          have d3 : (wr.drewN nq).cell? ⟨N + 1, k * 6 + 3, none⟩ = some (.string (str g.takes)) := c3
          have d4 : (wr.drewN nq).cell? ⟨N + 1, k * 6 + 4, none⟩ = some (.string (str g.has)) := c4
          have d5 : (wr.drewN nq).cell? ⟨N + 1, k * 6 + 5, none⟩ = some (.bool g.free) := c5
          have hNX : N + 1 < (wr.drewN nq).heap.size := hb2
          obtain ⟨W, hW⟩ : ∃ W, W = wr.drewN nq := ⟨_, rfl⟩
          rw [← hW] at d0 d1 d2 d3 d4 d5 hNX HS HB ⊢
          clear c0 c1 c2 c3 c4 c5 HQ hW
          obtain ⟨gN, hgN⟩ : ∃ gN : Rr, gN = { g with op := op, name := nm } := ⟨_, rfl⟩
          have hB := HB.out.alloc (.cells (rrA { g with op := op, name := nm }) 24)
          have hz := hB.row (rrA { g with op := op, name := nm })
          have z0 := hz.cell 0
          have z1 := hz.cell 1
          have z2 := hz.cell 2
          have z3 := hz.cell 3
          have z4 := hz.cell 4
          have z5 := hz.cell 5
          simp [rrA] at z0 z1 z2 z3 z4 z5
          clear hz hB hgN gN
          go_wp2_with first
            | (refine wpList_store_rowTo rfl 24 _ _ rfl rfl N (rrA { g with op := op, name := nm }) rfl rfl 24 _ (HB.out.alloc _) rfl rfl (rrA_one _) ?_)
          exact bodyPost_ret (v := .tuple #[rrV { g with op := op, name := nm }, .bool true]) (by simp [results, Try.results24, go_sem, rrV, rrA, z0, z1, z2, z3, z4, z5]) rfl ⟨rfl, (HS.out.alloc _).setRow (.inr HNw.out) _⟩
end Go.Proofs.Ytfemeendkjcffaa
