/-
  region: what the rounds of RegionPlays keep (printed by gen_rgu.py).
-/
import Derived.Test.YtjpjobpkeejmcaaRgT
set_option linter.unusedVariables false
set_option linter.unusedSimpArgs false
namespace Go.Proofs.Ytjpjobpkeejmcaa
open Go.RowKit

theorem lens_add (ow : Int) : ∀ l : List Pc, l.length = (mine ow l).length + (less ow l).length
  | [] => rfl
  | p :: l => by
    have h := lens_add ow l
    rw [mine, less] at h ⊢
    by_cases hp : p.ow = ow
    · have hb : (p.ow == ow) = true := by simpa using hp
      rw [List.filter_cons, List.filter_cons, hb, if_pos rfl, if_neg (by decide)]
      simp only [List.length_cons]
      omega
    · have hb : (p.ow == ow) = false := by simpa using hp
      rw [List.filter_cons, List.filter_cons, hb, if_neg (by decide), if_pos (by decide)]
      simp only [List.length_cons]
      omega
/-- What a round keeps: the room's pieces and the reference's, alike. -/
structure Ply (w wr : World) (X m cr cw : Nat) (Ar Aw : Option Addr) (fm sz j : Nat) (ps : List Pc) : Prop where
  len : m = ps.length
  ge : w.heap.size ≤ X
  rm : Rm wr X Ar cr fm sz w.heap.size ps
  own : wr.ownsRow w.heap.size 54 3 (.slice Aw m cw) m (pcs ps)
  sn : snd sz fm ps
  le : m ≤ j
  st : Step (fun _ => False) w wr
section
variable {w wr wr' : World} {X m cr cw : Nat} {Ar Aw : Option Addr} {fm sz j : Nat} {ps : List Pc}
theorem Ply.quiet (h : Ply w wr X m cr cw Ar Aw fm sz j ps) (hs : Step (fun _ => False) wr wr') : Ply w wr' X m cr cw Ar Aw fm sz j ps :=
  ⟨h.len, h.ge, h.rm.quiet hs, own_below h.own hs, h.sn, h.le, h.st.trans hs⟩
theorem Ply.far (h : Ply w wr X m cr cw Ar Aw fm sz j ps) (hs : Step (fun k => k = X ∨ blkOf Ar = some k) wr wr') : wr'.ownsRow w.heap.size 54 3 (.slice Aw m cw) m (pcs ps) ∧ Step (fun _ => False) w wr' := by
  refine ⟨own_step h.own hs (fun k hk e => ?_), h.st.trans' hs (fun k hk => ?_)⟩
  · rcases e with rfl | e
    · exact own_tag h.own h.rm.blk (by decide) hk
    · exact own_tag2 h.own h.rm.own (by decide) k hk (by rw [ownBlock_slice]; exact e)
  · rcases hk with rfl | hk
    · exact .inr h.ge
    · exact .inr (h.rm.ge k hk)
theorem Ply.lens (h : Ply w wr X m cr cw Ar Aw fm sz j ps) (hz : sz ≤ 1073741824) : ∀ p ∈ ps, p.at_ + p.len ≤ sz ∧ p.len ≤ 1073741824 := fun p hp => by
  have := snd_all ps fm h.sn p hp
  exact ⟨this.2.2, by omega⟩
theorem box_turn {g B : Nat} {cs : Array Value} (hb : Blk wr g 42 cs) (hr : Rm wr X Ar cr fm sz B ps) (hs : Step (fun k => k = X ∨ blkOf Ar = some k) wr wr') : Blk wr' g 42 cs := by
  refine hb.step hs ?_
  rintro (rfl | e)
  · exact absurd (hr.blk.tag hb) (by decide)
  · exact own_tag hr.own hb (by decide) (by rw [ownBlock_slice]; exact e)
end
end Go.Proofs.Ytjpjobpkeejmcaa
