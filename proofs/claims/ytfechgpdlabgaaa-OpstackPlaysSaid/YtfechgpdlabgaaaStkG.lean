/-
  OpstackPlays: the law's walk.
-/
import Derived.Test.YtfechgpdlabgaaaStkF
namespace Go.Proofs.Ytfechgpdlabgaaa
open Go.RowKit

/-- Calls as cells. -/
def sops (l : List SOp) : List Value := l.flatMap SOp.cells
theorem sops_length (l : List SOp) : (sops l).length = l.length * 5 := by
  induction l with
  | nil => rfl
  | cons o l ih => simp only [sops, List.flatMap_cons, List.length_append] at ih ⊢; rw [ih]; simp [SOp.cells]; omega
theorem sops_get : ∀ (l : List SOp) (k j : Nat) (h : k < l.length), j < 5 → (sops l)[k * 5 + j]? = (l[k]).cells[j]?
  | o :: l, 0, j, _, hj => by
    simp only [sops, List.flatMap_cons, Nat.zero_mul, Nat.zero_add, List.getElem_cons_zero]
    rw [List.getElem?_append_left (by simp [SOp.cells]; omega)]
  | o :: l, k + 1, j, h, hj => by
    simp only [sops, List.flatMap_cons, List.getElem_cons_succ]
    rw [List.getElem?_append_right (by simp [SOp.cells]; omega)]
    have := sops_get l k j (by simpa using h) hj
    rw [← this]
    congr 1
    simp [SOp.cells]; omega

/-- The cells of call k, wherever nothing of the arguments has turned. -/
theorem sops_cells {w wr : World} {A : Option Addr} {l : List SOp} (hv : Reads w (fun k => k < w.heap.size) 5 A l.length (sops l)) (bel : Below w.heap.size w wr) {k : Nat} (hk : k < l.length) :
    ∃ b off, A = some ⟨b, off, none⟩ ∧ b < w.heap.size ∧ ∀ j u, (l[k]).cells[j]? = some u → wr.cell? ⟨b, off + k * 5 + j, none⟩ = some u := by
  obtain ⟨ad, rfl, _, hlt, hc⟩ := hv.2 (by omega)
  have h00 : (sops l)[0]? = some (.int .i64 (l[0]'(by omega)).kind) := by
    have := sops_get l 0 0 (by omega) (by omega)
    rw [show 0 * 5 + 0 = 0 from rfl] at this
    rw [this]
    rfl
  have h0 := hc 0 _ h00
  obtain ⟨b, off, spot⟩ := ad
  have hspot : spot = none := by
    have := World.cell?_spot h0
    simpa [Addr.add] using this
  subst hspot
  refine ⟨b, off, rfl, hlt, fun j u hu => ?_⟩
  have hj : j < 5 := by
    have := (List.getElem?_eq_some_iff.1 hu).1
    simpa [SOp.cells] using this
  have h1 := hc (k * 5 + j) u (by rw [sops_get l k j hk hj]; exact hu)
  rw [Addr.add_lit] at h1
  rw [Nat.add_assoc, bel.cell (p := ⟨b, off + (k * 5 + j), none⟩) hlt]
  exact h1

set_option maxRecDepth 100000 in
set_option maxHeartbeats 1600000 in
theorem plays_walk (w : World) (A : Option Addr) (cc : Nat) (ops : List SOp) (hv : Reads w (fun k => k < w.heap.size) 5 A ops.length (sops ops)) (hc : ops.length ≤ cc) (hc2 : cc ≤ 9223372036854775807) :
    Calls Try.prog 6 #[.slice A ops.length cc] w fun e w' => e = .returned (.bool true) ∧ Below w.heap.size w w' := by
  by_cases h1 : (60 : Int) < ops.length
  · go_enter Try.func6, Try.ntmps6
    go_wp2_with fail
    refine (awake21 w).mono ?_
    rintro e w0 ⟨rfl, b0⟩
    go_wp2_with fail
    go_ret
    exact ⟨rfl, b0⟩
  go_enter Try.func6, Try.ntmps6
  go_wp2_with fail
  refine (awake21 w).mono ?_
  rintro e w0 ⟨rfl, b0⟩
  have h0 : StkAt (w0.alloc (.cells #[.slice none 0 0] 48)) w.heap.size w0.heap.size none 0 [] := ⟨Blk.new _ _ _, World.ownsRow_nil _ _ _ _, by have := b0.size; simp; omega⟩
  have hb0 : Below w.heap.size w (w0.alloc (.cells #[.slice none 0 0] 48)) := b0.alloc b0.size _
  have hg0 : w.heap.size ≤ w0.heap.size := b0.size
  go_wp2_with fail
  go_loopw [3, 4, 5] (fun p v i wr => ∃ (k g : Nat) (D : Option Addr) (c : Nat) (l : List UInt8), k ≤ ops.length ∧ p = .pointer (some ⟨g, 0, none⟩) ∧ v = .string (str l) ∧ i = .int .i64 k ∧
      l.length ≤ 50 * k ∧ w.heap.size ≤ g ∧ Hid (StkAt wr w.heap.size g D c l) ∧ Hid (Below w.heap.size w wr)) (fun _ _ i _ => ops.length - (intOf i).toNat)
  case atStart => exact ⟨0, w0.heap.size, none, 0, [], Nat.zero_le _, rfl, rfl, rfl, Nat.le_refl _, hg0, h0, hb0⟩
  case round =>
    obtain ⟨k, g, D, c, l, hk, rfl, rfl, rfl, hl, hg, hs, bel⟩ := hrel
    clear h0 hb0 b0 hg0
    by_cases hlt : k < ops.length
    · obtain ⟨b, off, rfl, hbl, hcells⟩ := sops_cells hv bel.out hlt
      have c0 := hcells 0 _ rfl
      have c1 := hcells 1 _ rfl
      have c2 := hcells 2 _ rfl
      have c3 := hcells 3 _ rfl
      have c4 := hcells 4 _ rfl
      clear hcells
      rw [Nat.add_zero] at c0
      have i0 : (0 : Int) ≤ (k : Int) := by omega
      have i1 : (k : Int) < (ops.length : Int) := by omega
      have hss := str_size (ops[k]).s
      generalize hok : ops[k] = o at c0 c1 c2 c3 c4 hss
      have HOK := Lib.hid hok
      clear hok
      by_cases h50 : (50 : Int) < (o.s.length : Int)
      · go_wp2_with fail
        go_ret
        exact ⟨rfl, bel.out⟩
      have hdo := Lib.hid (do_any wr w.heap.size g D c l hs.out (by omega) o (by omega))
      have hlen := doF_le l o (by omega)
      generalize doF l o = l2 at hdo hlen
      go_wp2_with fail
      refine hdo.out.mono ?_
      rintro e w1 ⟨rfl, tt⟩
      obtain ⟨D1, c1', h1', b1⟩ := stk_b hs.out hg tt
      have bel1 := bel.out.trans b1
      have c0' := (b1.cell (p := ⟨b, off + k * 5, none⟩) hbl).trans c0
      have hz := str_size l2
      have HS1 := Lib.hid h1'
      have HB1 := Lib.hid bel1
      clear tt h1' bel1 b1 hdo c0 c1 c2 c3 c4 hs bel
      by_cases h6 : o.kind = 6
      · have e6 : (o.kind == 6) = true := by simpa using h6
        have hcl := Lib.hid (stk_clone w1 _ g D1 c1' l2 HS1.out (by omega))
        clear h6
        go_wp2_with fail
        refine hcl.out.mono ?_
        rintro e w2 ⟨g2, D2, c2', rfl, hg2, h2, s2⟩
        have hz2 := HS1.out.base
        have hp := stk_push w2 _ _ D1 c1' l2 9 (HS1.out.step s2 id (fun _ _ => id)) (by omega)
        go_wp2_with fail
        refine hp.mono ?_
        rintro e w3 ⟨rfl, D3, c3', h3, s3, d3⟩
        have h4 : StkAt w3 w.heap.size g2 D2 c2' l2 := by
          have := h2.step s3 (by
            rintro (e | e)
            · have := HS1.out.blk.lt; omega
            · have := own_lt HS1.out.own _ (by rw [ownBlock_slice]; exact e); omega) (fun k hk => by
            have hk2 := own_ge h2.own k (by rw [ownBlock_slice]; exact hk)
            rintro (e | e)
            · have := HS1.out.blk.lt; omega
            · have := own_lt HS1.out.own _ (by rw [ownBlock_slice]; exact e); omega)
          exact ⟨this.blk, own_base this.own (fun k hk => by have := own_ge this.own k hk; omega), h3.base⟩
        have b2 : Below w.heap.size w1 w2 := s2.below _ (fun _ _ h => h.elim) hz2
        have b3 : Below w.heap.size w2 w3 := s3.below _ (fun k _ hk => by
          rcases hk with rfl | hk
          · exact hg
          · exact own_ge HS1.out.own k (by rw [ownBlock_slice]; exact hk)) (by have := s2.size; omega)
        have H4 := Lib.hid h4
        have HB4 := Lib.hid ((HB1.out.trans b2).trans b3)
        have hg4 : w.heap.size ≤ g2 := by omega
        clear h3 s3 d3 h4 b2 b3 s2 h2 hp hcl hg2 hz2 c0'
        go_wp2_with fail
        refine (stk_list w3 _ _ _ _ _ H4.out (by omega)).mono ?_
        rintro e w5 ⟨A5, c5, rfl, ho5, s5⟩
        have hcv := run_conv_bytes (P := Try.prog) w5 46 9 5 Try.underlying46 Try.underlying5 Try.underlying9 (c := c5) (Reads.of_own ho5)
        have H5 := Lib.hid (H4.out.step s5 id (fun _ _ => id))
        have HB5 := Lib.hid (HB4.out.trans (s5.below _ (fun _ _ h => h.elim) H4.out.base))
        clear ho5 s5
        go_wp2_with fail
        refine (stk_len _ _ _ _ _ _ H5.out).mono ?_
        rintro e w6 ⟨rfl, rfl⟩
        go_wp2_with fail
        go_roundw
        case rel => exact ⟨k + 1, g2, D2, c2', l2, by omega, rfl, rfl, by go_num, by omega, hg4, H5.out, HB5.out⟩
        case measure => simp [intOf]; omega
      · have e6 : (o.kind == 6) = false := by simpa using h6
        clear h6
        go_wp2_with fail
        refine (stk_list w1 _ _ _ _ _ HS1.out (by omega)).mono ?_
        rintro e w5 ⟨A5, c5, rfl, ho5, s5⟩
        have hcv := run_conv_bytes (P := Try.prog) w5 46 9 5 Try.underlying46 Try.underlying5 Try.underlying9 (c := c5) (Reads.of_own ho5)
        have H5 := Lib.hid (HS1.out.step s5 id (fun _ _ => id))
        have HB5 := Lib.hid (HB1.out.trans (s5.below _ (fun _ _ h => h.elim) HS1.out.base))
        clear ho5 s5 c0'
        go_wp2_with fail
        refine (stk_len _ _ _ _ _ _ H5.out).mono ?_
        rintro e w6 ⟨rfl, rfl⟩
        go_wp2_with fail
        go_roundw
        case rel => exact ⟨k + 1, g, D1, c1', l2, by omega, rfl, rfl, by go_num, by omega, hg, H5.out, HB5.out⟩
        case measure => simp [intOf]; omega
    · obtain rfl : k = ops.length := by omega
      go_wp2_with fail
      go_ret
      exact ⟨rfl, bel.out⟩
end Go.Proofs.Ytfechgpdlabgaaa
