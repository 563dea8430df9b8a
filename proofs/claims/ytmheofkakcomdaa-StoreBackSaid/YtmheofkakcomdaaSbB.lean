/-
  store: the functions: Len, Live, Stands, Swap, Cut.
-/
import Derived.Test.YtmheofkakcomdaaSbA
set_option linter.unusedVariables false
set_option linter.unusedSimpArgs false
namespace Go.Proofs.Ytmheofkakcomdaa
open Go.RowKit
/-- Is there a function at an address? -/
def lvF (fs : List (Option Fv)) (a : Int) : Bool := if 0 ≤ a ∧ a < (fs.length : Int) then (fs.getD a.toNat none).isSome else false
section
variable {w : World} {B Fu n cf cc : Nat} {Af Ac : Option Addr} {fs : List (Option Fv)} {cells : List Int}
theorem Fw.row (h : Fw w B Fu Af n cf Ac cc fs cells) {k : Nat} (hk : k < n) : ∃ g o, Af = some ⟨g, 0, none⟩ ∧ g < w.heap.size ∧ fs[k]? = some o ∧ w.cell? ⟨g, k, none⟩ = some (ptr_ o) := by
  obtain ⟨g, rfl, _, hlt, hc, _⟩ := own_row h.of_ (by omega)
  have hkl : k < fs.length := by rw [← h.lf]; exact hk
  exact ⟨g, fs[k], rfl, hlt, List.getElem?_eq_getElem hkl, hc k _ (ptrs_get fs k hkl)⟩
theorem Fw.rowc (h : Fw w B Fu Af n cf Ac cc fs cells) {k : Nat} (hk : k < n) : ∃ g x, Ac = some ⟨g, 0, none⟩ ∧ g < w.heap.size ∧ cells[k]? = some x ∧ w.cell? ⟨g, k, none⟩ = some (.int .i64 x) ∧ w.frozen? ⟨g, k, none⟩ = false := by
  obtain ⟨g, rfl, _, hlt, hc, hf⟩ := own_row h.oc (by omega)
  have hkl : k < cells.length := by rw [← h.lc]; exact hk
  exact ⟨g, cells[k], rfl, hlt, List.getElem?_eq_getElem hkl, hc k _ (i64s_get cells k hkl), hf k⟩
theorem f_len (h : Fw w B Fu Af n cf Ac cc fs cells) : Calls Try.prog 46 #[.pointer (some ⟨Fu, 0, none⟩)] w fun e w' => e = .returned (.int .i64 (n : Int)) ∧ w' = w := by
  have x0 := (h.blk.cell 0).trans (show _ = some (Value.slice Af n cf) from rfl)
  clear h
  go_enter Try.func46, Try.ntmps46
  go_wp2_with fail
  go_ret
  exact ⟨rfl, rfl⟩
set_option maxRecDepth 100000 in
set_option maxHeartbeats 1600000 in
theorem f_live (a : Int) (h : Fw w B Fu Af n cf Ac cc fs cells) : Calls Try.prog 61 #[.pointer (some ⟨Fu, 0, none⟩), .int .i64 a] w fun e w' => e = .returned (.bool (lvF fs a)) ∧ w' = w := by
  have x0 := (h.blk.cell 0).trans (show _ = some (Value.slice Af n cf) from rfl)
  have hn := h.lf
  by_cases h0 : 0 ≤ a
  · by_cases h1 : a < (n : Int)
    · obtain ⟨k, rfl⟩ : ∃ k : Nat, a = k := ⟨a.toNat, by omega⟩
      obtain ⟨g, o, rfl, hg, ho, hc⟩ := h.row (k := k) (by omega)
      have HV : Hid (lvF fs (k : Int) = o.isSome) := by
        rw [Hid, lvF, if_pos ⟨h0, by omega⟩, Int.toNat_natCast, List.getD_eq_getElem?_getD, ho]
        rfl
      have d0 : decide ((0 : Int) ≤ (k : Int)) = true := decide_eq_true h0
      have d1 : decide ((k : Int) < (n : Int)) = true := decide_eq_true h1
      have d2 : decide (k < n) = true := decide_eq_true (by omega)
      clear h ho hn
      cases o with
      | none =>
        replace hc : w.cell? ⟨g, k, none⟩ = some (.pointer none) := hc
        go_enter Try.func61, Try.ntmps61
        go_wp2_with fail
        go_ret
        exact ⟨by rw [HV.out]; rfl, rfl⟩
      | some f =>
        replace hc : w.cell? ⟨g, k, none⟩ = some (.pointer (some ⟨f.b, 0, none⟩)) := hc
        go_enter Try.func61, Try.ntmps61
        go_wp2_with fail
        go_ret
        exact ⟨by rw [HV.out]; rfl, rfl⟩
    · have HV : Hid (lvF fs a = false) := by rw [Hid, lvF, if_neg (by omega)]
      clear h hn
      go_enter Try.func61, Try.ntmps61
      go_wp2_with fail
      go_ret
      exact ⟨by rw [HV.out]; rfl, rfl⟩
  · have HV : Hid (lvF fs a = false) := by rw [Hid, lvF, if_neg (by omega)]
    clear h hn
    go_enter Try.func61, Try.ntmps61
    go_wp2_with fail
    go_ret
    exact ⟨by rw [HV.out]; rfl, rfl⟩
theorem lv_some {fs : List (Option Fv)} {a : Int} (h : lvF fs a = true) : ∃ (k : Nat) (f : Fv), a = (k : Int) ∧ k < fs.length ∧ fs[k]? = some (some f) := by
  rw [lvF] at h
  split at h
  · rename_i hc
    refine ⟨a.toNat, ?_⟩
    rw [List.getD_eq_getElem?_getD, List.getElem?_eq_getElem (by omega)] at h
    obtain ⟨f, hf⟩ := Option.isSome_iff_exists.1 h
    exact ⟨f, by omega, by omega, by rw [List.getElem?_eq_getElem (by omega)]; exact congrArg some hf⟩
  · cases h
set_option maxRecDepth 100000 in
theorem f_stands_dead (a : Int) (h : Fw w B Fu Af n cf Ac cc fs cells) (hl : lvF fs a = false) : Calls Try.prog 47 #[.pointer (some ⟨Fu, 0, none⟩), .int .i64 a] w fun e w' => e = .returned (.tuple #[.int .i64 0, .int .i64 47]) ∧ w' = w := by
  have HL := f_live a h
  rw [hl] at HL
  replace HL := Lib.hid HL
  clear h hl
  go_enter Try.func47, Try.ntmps47
  go_wp2_with fail
  refine HL.out.mono ?_
  rintro e w' ⟨rfl, rfl⟩
  go_wp2_with fail
  go_ret2
  exact ⟨rfl, rfl⟩
theorem lv_of {fs : List (Option Fv)} {k : Nat} {f : Fv} (h : fs[k]? = some (some f)) : lvF fs (k : Int) = true := by
  have hk := (List.getElem?_eq_some_iff.1 h).1
  rw [lvF, if_pos ⟨by omega, by omega⟩, Int.toNat_natCast, List.getD_eq_getElem?_getD, h]
  rfl
set_option maxRecDepth 100000 in
theorem f_stands_ok (k : Nat) (f : Fv) (x : Int) (h : Fw w B Fu Af n cf Ac cc fs cells) (hf : fs[k]? = some (some f)) (hx : cells[k]? = some x) : Calls Try.prog 47 #[.pointer (some ⟨Fu, 0, none⟩), .int .i64 (k : Int)] w fun e w' => e = .returned (.tuple #[.int .i64 x, .int .i64 0]) ∧ w' = w := by
  have x1 := (h.blk.cell 1).trans (show _ = some (Value.slice Ac n cc) from rfl)
  have HL := f_live (k : Int) h
  rw [lv_of hf] at HL
  replace HL := Lib.hid HL
  have hkn : k < n := by rw [h.lf]; exact (List.getElem?_eq_some_iff.1 hf).1
  obtain ⟨g, y, rfl, hg, hy, hc, _⟩ := h.rowc hkn
  obtain rfl := Option.some.inj (hy.symm.trans hx)
  have i0 : (0 : Int) ≤ (k : Int) := by omega
  have i1 : (k : Int) < (n : Int) := by omega
  clear h hf hy hx
  go_enter Try.func47, Try.ntmps47
  go_wp2_with fail
  refine HL.out.mono ?_
  rintro e w' ⟨rfl, rfl⟩
  go_wp2_with fail
  go_ret2
  exact ⟨rfl, rfl⟩
/-- A cell turned. -/
theorem Fw.setc {g : Nat} (h : Fw w B Fu Af n cf (some ⟨g, 0, none⟩) cc fs cells) {k : Nat} (hk : k < n) (x : Int) :
    Fw (w.setCell ⟨g, k, none⟩ (.int .i64 x)) B Fu Af n cf (some ⟨g, 0, none⟩) cc fs (cells.set k x) ∧ Step (fun j => j = g) w (w.setCell ⟨g, k, none⟩ (.int .i64 x)) := by
  have hs : Step (fun j => j = g) w (w.setCell ⟨g, k, none⟩ (.int .i64 x)) := Step.setCell (F := fun j => j = g) (p := ⟨g, k, none⟩) Step.refl (.inl rfl) _
  refine ⟨⟨h.blk.step hs (fun e => h.nec (by rw [e]; rfl)), own_step h.of_ hs (fun j hj e => h.nfc j (by rwa [ownBlock_slice] at hj) (by rw [e]; rfl)), ?_, h.lf, by rw [List.length_set]; exact h.lc, fun f hf => ⟨(h.each f hf).1.step hs (fun e => (h.neb hf).2.2 (by rw [e]; rfl)), (h.each f hf).2⟩, h.ge⟩, hs⟩
  rw [← i64s_set]
  exact own_setAt h.oc (by rw [i64s_length, ← h.lc]; exact hk)
/-- What Swap answers where the two types are alike. -/
def swE (fs : List (Option Fv)) (a t : Int) : Bool := lvF fs a && lvF fs t
set_option maxRecDepth 100000 in
set_option maxHeartbeats 1600000 in
theorem f_swap_dead (a t : Int) (h : Fw w B Fu Af n cf Ac cc fs cells) (hd : swE fs a t = false) : Calls Try.prog 69 #[.pointer (some ⟨Fu, 0, none⟩), .int .i64 a, .int .i64 t] w fun e w' => e = .returned (.tuple #[.int .i64 0, .int .i64 47]) ∧ w' = w := by
  have HA := Lib.hid (f_live a h)
  have HT := Lib.hid (f_live t h)
  rw [swE] at hd
  obtain ⟨p, hp⟩ : ∃ p, p = lvF fs a := ⟨_, rfl⟩
  obtain ⟨q, hq⟩ : ∃ q, q = lvF fs t := ⟨_, rfl⟩
  rw [← hp, ← hq] at hd
  rw [← hp] at HA
  rw [← hq] at HT
  clear h hp hq
  cases p with
  | false =>
    go_enter Try.func69, Try.ntmps69
    go_wp2_with fail
    refine HA.out.mono ?_
    rintro e w' ⟨rfl, rfl⟩
    go_wp2_with fail
    go_ret2
    exact ⟨rfl, rfl⟩
  | true =>
    cases q with
    | true => cases hd
    | false =>
      go_enter Try.func69, Try.ntmps69
      go_wp2_with fail
      refine HA.out.mono ?_
      rintro e w' ⟨rfl, rfl⟩
      go_wp2_with fail
      refine HT.out.mono ?_
      rintro e w' ⟨rfl, rfl⟩
      go_wp2_with fail
      go_ret2
      exact ⟨rfl, rfl⟩
set_option maxRecDepth 100000 in
set_option maxHeartbeats 3200000 in
theorem f_swap_ok (k t : Nat) (f g : Fv) (p q : ByteArray) (x : Int) (h : Fw w B Fu Af n cf Ac cc fs cells) (hk : fs[k]? = some (some f)) (ht : fs[t]? = some (some g)) (hf : f.cs[0]? = some (.string p) ∧ f.cs[1]? = some (.string q)) (hg : g.cs[0]? = some (.string p) ∧ g.cs[1]? = some (.string q)) (hx : cells[k]? = some x) :
    Calls Try.prog 69 #[.pointer (some ⟨Fu, 0, none⟩), .int .i64 (k : Int), .int .i64 (t : Int)] w fun e w' => e = .returned (.tuple #[.int .i64 x, .int .i64 0]) ∧ Fw w' B Fu Af n cf Ac cc fs (cells.set k (t : Int)) ∧ Step (fun j => blkOf Ac = some j) w w' := by
  have hkn : k < n := by rw [h.lf]; exact (List.getElem?_eq_some_iff.1 hk).1
  have htn : t < n := by rw [h.lf]; exact (List.getElem?_eq_some_iff.1 ht).1
  have HA := f_live (k : Int) h
  have HT := f_live (t : Int) h
  have lk := lv_of hk
  have lt := lv_of ht
  rw [lk] at HA
  rw [lt] at HT
  replace HA := Lib.hid HA
  replace HT := Lib.hid HT
  have x0 := (h.blk.cell 0).trans (show _ = some (Value.slice Af n cf) from rfl)
  have x1 := (h.blk.cell 1).trans (show _ = some (Value.slice Ac n cc) from rfl)
  obtain ⟨b, o, hAf, hb, ho, hc⟩ := h.row hkn
  obtain ⟨b', o', hAf', _, ho', hc'⟩ := h.row htn
  rw [hAf] at hAf' x0
  injection hAf' with e1
  injection e1 with e1
  subst e1
  obtain rfl := Option.some.inj (ho.symm.trans hk)
  obtain rfl := Option.some.inj (ho'.symm.trans ht)
  obtain ⟨d, y, hAc, hd, hy, hcc, hfz⟩ := h.rowc hkn
  obtain rfl := Option.some.inj (hy.symm.trans hx)
  rw [hAc] at x1
  have h' : Fw w B Fu Af n cf (some ⟨d, 0, none⟩) cc fs cells := by rw [← hAc]; exact h
  have HS := Lib.hid (fun q : Nat => (h'.quiet (Step.refl.drewN q)).setc hkn (t : Int))
  have HAC := Lib.hid hAc
  have bf := (h.each f (List.mem_of_getElem? hk)).1
  have bg := (h.each g (List.mem_of_getElem? ht)).1
  have f0 := (bf.cell 0).trans hf.1
  have f1 := (bf.cell 1).trans hf.2
  have g0 := (bg.cell 0).trans hg.1
  have g1 := (bg.cell 1).trans hg.2
  have c1 : w.cell? ⟨b, k, none⟩ = some (.pointer (some ⟨f.b, 0, none⟩)) := hc
  have c2 : w.cell? ⟨b, t, none⟩ = some (.pointer (some ⟨g.b, 0, none⟩)) := hc'
  have i0 : (0 : Int) ≤ (k : Int) := by omega
  have i1 : (k : Int) < (n : Int) := by omega
  have j0 : (0 : Int) ≤ (t : Int) := by omega
  have j1 : (t : Int) < (n : Int) := by omega
  clear h h' hAc hAf hk ht ho ho' hx hy hc hc' bf bg lk lt hf hg
  go_enter Try.func69, Try.ntmps69
  go_wp2_with fail
  refine HA.out.mono ?_
  rintro e w' ⟨rfl, rfl⟩
  go_wp2_with fail
  refine HT.out.mono ?_
  rintro e w' ⟨rfl, rfl⟩
  go_wp2_with fail
  go_quiet (fail)
  go_wp2_with fail
  go_ret2
  rw [HAC.out]
  exact ⟨rfl, (HS.out nq).1, (Step.refl.drewN nq).trans ((HS.out nq).2.mono fun i _ e => by rw [e]; rfl)⟩
theorem fw_take (h : Fw w B Fu Af n cf Ac cc fs cells) {k : Nat} (hk : k ≤ n) {W : World} (hW : W = (w.setCell ⟨Fu, 0, none⟩ (.slice Af k cf)).setCell ⟨Fu, 1, none⟩ (.slice Ac k cc)) :
    Fw W B Fu Af k cf Ac cc (fs.take k) (cells.take k) ∧ Upd w (ffoot Fu Af Ac fs) (ffoot Fu Af Ac (fs.take k)) W := by
  have hs : Step (fun j => j = Fu) w W := by
    rw [hW]
    exact (Step.setCell (F := fun j => j = Fu) (p := ⟨Fu, 0, none⟩) Step.refl (.inl rfl) _).setCell (p := ⟨Fu, 1, none⟩) (.inl rfl) _
  have hb : Blk W Fu 123 #[.slice Af k cf, .slice Ac k cc] := by
    rw [hW]
    simpa using (h.blk.set_ 0 (.slice Af k cf)).set_ 1 (.slice Ac k cc)
  have o1 := own_take (own_step h.of_ hs (fun j hj e => h.nef (by rw [← e]; rwa [ownBlock_slice] at hj))) hk
  have o2 := own_take (own_step h.oc hs (fun j hj e => h.nec (by rw [← e]; rwa [ownBlock_slice] at hj))) hk
  rw [Nat.mul_one, ← ptrs_take] at o1
  rw [Nat.mul_one, ← i64s_take] at o2
  have hm : ∀ f, some f ∈ fs.take k → some f ∈ fs := fun f hf => List.mem_of_mem_take hf
  refine ⟨⟨hb, o1, o2, by rw [List.length_take, ← h.lf]; omega, by rw [List.length_take, ← h.lc]; omega, fun f hf => ⟨(h.each f (hm f hf)).1.step hs (fun e => (h.neb (hm f hf)).1 e), (h.each f (hm f hf)).2⟩, h.ge⟩, hs.mono fun i _ hi => .inl hi, fun i hi => .inl ?_⟩
  rcases hi with e | e | e | ⟨f, hf, e⟩
  · exact .inl e
  · exact .inr (.inl e)
  · exact .inr (.inr (.inl e))
  · exact .inr (.inr (.inr ⟨f, hm f hf, e⟩))
set_option maxRecDepth 100000 in
set_option maxHeartbeats 1600000 in
theorem f_cut (k : Nat) (h : Fw w B Fu Af n cf Ac cc fs cells) (hk : k < n) : Calls Try.prog 68 #[.pointer (some ⟨Fu, 0, none⟩), .int .i64 (k : Int)] w fun e w' => e = .returned (.tuple #[]) ∧ Fw w' B Fu Af k cf Ac cc (fs.take k) (cells.take k) ∧ Upd w (ffoot Fu Af Ac fs) (ffoot Fu Af Ac (fs.take k)) w' := by
  have x0 := (h.blk.cell 0).trans (show _ = some (Value.slice Af n cf) from rfl)
  have x1 := (h.blk.cell 1).trans (show _ = some (Value.slice Ac n cc) from rfl)
  have z0 := h.blk.frozen 0
  have z1 := h.blk.frozen 1
  have HT := Lib.hid (fw_take h (Nat.le_of_lt hk) rfl)
  have i0 : (0 : Int) ≤ (k : Int) := by omega
  have i1 : (k : Int) < (n : Int) := by omega
  have s1 := slice_hn E_fp Af n cf .i64 (k : Int) k rfl (by have := own_cap h.of_; omega)
  have s2 := slice_hn E_int Ac n cc .i64 (k : Int) k rfl (by have := own_cap h.oc; omega)
  clear h
  go_enter Try.func68, Try.ntmps68
  go_wp2_with fail
  go_end0
  exact ⟨rfl, HT.out.1, HT.out.2⟩
end
end Go.Proofs.Ytmheofkakcomdaa
