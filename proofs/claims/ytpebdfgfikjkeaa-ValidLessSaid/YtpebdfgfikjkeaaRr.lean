/-
  Rows of structs that are read; bytes as a string.
-/
import Derived.Test.YtpebdfgfikjkeaaBys
import Derived.Test.YtpebdfgfikjkeaaOpn
set_option linter.unusedVariables false
set_option linter.unusedSimpArgs false
namespace Go.Proofs.Ytpebdfgfikjkeaa
open Go.RowKit

/-- The cells of element k of a row of structs. -/
theorem reads_row {α : Type} (c : α → List Value) (m : Nat) (hm : 0 < m) (hc : ∀ a, (c a).length = m) {w : World} {S : Nat → Prop} {A : Option Addr} {l : List α} {n : Nat} (hv : Reads w S m A n (l.flatMap c)) {k : Nat} (hk : k < l.length) :
    ∃ b off, A = some ⟨b, off, none⟩ ∧ S b ∧ b < w.heap.size ∧ ∀ j u, (c l[k])[j]? = some u → w.cell? ⟨b, off + k * m + j, none⟩ = some u := by
  have hn : 0 < n := by
    refine Nat.pos_of_ne_zero fun h => ?_
    have h1 := hv.1
    rw [flat_length c m hc, h, Nat.zero_mul] at h1
    have h2 : 0 < l.length * m := Nat.mul_pos (by omega) hm
    omega
  obtain ⟨ad, rfl, hS, hlt, hcell⟩ := hv.2 hn
  have h00 := flat_get c m hc l 0 0 (by omega) hm
  rw [Nat.zero_mul] at h00
  have h01 : (c (l[0]'(by omega)))[0]? = some ((c (l[0]'(by omega)))[0]'(by rw [hc]; exact hm)) := List.getElem?_eq_getElem _
  have h0 := hcell 0 _ (h00.trans h01)
  obtain ⟨b, off, spot⟩ := ad
  have hspot : spot = none := by
    have := World.cell?_spot h0
    simpa [Addr.add] using this
  subst hspot
  refine ⟨b, off, rfl, hS, hlt, fun j u hu => ?_⟩
  have hj : j < m := by
    have := (List.getElem?_eq_some_iff.1 hu).1
    rwa [hc] at this
  have h1 := hcell (k * m + j) u (by rw [flat_get c m hc l k j hk hj]; exact hu)
  rw [Addr.add_lit] at h1
  rw [Nat.add_assoc]
  exact h1
theorem conv_bytes {S : Nat → Prop} {A : Option Addr} {w : World} {n c : Nat} {l : List UInt8} (h : Reads w S 1 A n (u8s l)) : (convert 107 9 (.slice A n c)).run Try.prog w = .ok (.string (str l)) w :=
  run_conv_bytes w 107 9 5 Try.underlying107 Try.underlying5 Try.underlying9 h
theorem byte_cell (n : Nat) (h : n < 256) : u8s [UInt8.ofNat n] = [Value.int .u8 (n : Int)] := by
  simp [u8s]
  omega
end Go.Proofs.Ytpebdfgfikjkeaa
