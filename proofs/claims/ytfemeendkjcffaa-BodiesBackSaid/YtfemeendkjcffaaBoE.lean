/-
  bodies: the law BodiesLocals, its walk.
-/
import Derived.Test.YtfemeendkjcffaaBoB
import Derived.Test.YtfemeendkjcffaaBoD
import Derived.Test.YtfemeendkjcffaaOpn
import Derived.OpenShut
set_option linter.unusedVariables false
set_option linter.unusedSimpArgs false
namespace Go.Proofs.Ytfemeendkjcffaa
open Go.RowKit

set_option maxRecDepth 100000 in
set_option maxHeartbeats 3200000 in
theorem blocals_walk (w : World) (B : Option Addr) (cc : Nat) (l : List (Nat × Nat)) (S : Nat → Prop) (hS : ∀ k, S k → k < w.heap.size) (hr : Reads w S 2 B l.length (l.flatMap loC)) (hb : ∀ g ∈ l, g.1 < 4294967296 ∧ g.2 < 256)
    (ps : List UInt8) (rs : ByteArray) (h1 : ps.length ≤ 300) (h2 : l.length ≤ 50) :
    Calls Try.prog 11 #[.agg #[.string (str ps), .string rs], .slice B l.length cc] w fun e w' => e = .returned (.bool true) ∧ Step (fun _ => False) w w' := by
  have HC : Hid (∀ w', Step (fun _ => False) w w' → Calls Try.prog 66 #[.slice B l.length cc] w' fun e w'' => e = .returned (cntV (locF l 0)) ∧ Step (fun _ => False) w' w'') := fun w' hs =>
    count_walk w' B cc l S (hr.step hs (fun _ _ => id)) (fun g hg => (hb g hg).1) (by omega)
  have HL : Hid (∀ w', Step (fun _ => False) w w' → Calls Try.prog 68 #[.slice B l.length cc] w' fun e w'' => e = .returned (locV (locF l 0)) ∧ w'' = w') := fun w' hs =>
    locals_walk w' B cc l S (hr.step hs (fun _ _ => id)) (fun g hg => (hb g hg).1) (by omega)
  have hsz := str_size ps
  have g1 : ¬ (300 : Int) < (ps.length : Int) := by omega
  have g2 : ¬ (50 : Int) < (l.length : Int) := by omega
  have g1' : decide ((300 : Int) < (ps.length : Int)) = false := decide_eq_false g1
  have g2' : decide ((50 : Int) < (l.length : Int)) = false := decide_eq_false g2
  cases hF : locF l 0 with
  | none =>
    have HT : Hid (∀ w', Step (fun _ => False) w w' → Calls Try.prog 67 #[.agg #[.string (str ps), .string rs], .slice B l.length cc] w' fun e w'' => e = .returned (.tuple #[.string ⟨#[]⟩, .int .i64 23]) ∧ Step (fun _ => False) w' w'') := fun w' hs =>
      types_err w' B cc l S (hr.step hs (fun _ _ => id)) (fun g hg => (hb g hg).1) (by omega) _ _ hF
    rw [hF] at HC HL
    simp only [cntV, locV] at HC HL
    clear hF hr hb
    go_enter Try.func11, Try.ntmps11
    go_wp2_with fail
    refine (awake14 _).mono ?_
    rintro e w5 ⟨rfl, hS5⟩
    have HB5 := Lib.hid ((Blk.new w 105 #[.string (str ps), .string rs]).step hS5 id)
    have HS5 := Lib.hid ((Step.refl.alloc _).trans hS5)
    clear hS5
    obtain ⟨X, hX⟩ : ∃ X, X = w.heap.size := ⟨_, rfl⟩
    rw [← hX] at HB5 ⊢
    clear hX
    have x0 := HB5.out.cell 0
    simp at x0
    go_wp2_with fail
    refine (HC.out _ HS5.out).mono ?_
    rintro e w6 ⟨rfl, hS6⟩
    have HB6 := Lib.hid (HB5.out.step hS6 id)
    have HS6 := Lib.hid (HS5.out.trans hS6)
    clear hS6 x0
    have x0 := HB6.out.cell 0
    have x1 := HB6.out.cell 1
    simp at x0 x1
    go_wp2_with fail
    refine (HT.out _ HS6.out).mono ?_
    rintro e w7 ⟨rfl, hS7⟩
    have HS7 := Lib.hid (HS6.out.trans hS7)
    clear hS7 x0 x1
    go_wp2_with fail
    refine (HL.out _ HS7.out).mono ?_
    rintro e w8 ⟨rfl, rfl⟩
    go_wp2_with fail
    go_ret
    exact ⟨rfl, HS7.out⟩
  | some n =>
    have hn := (locF_le l 0 n (by omega) hF).2
    have HT : Hid (∀ w', Step (fun _ => False) w w' → Calls Try.prog 67 #[.agg #[.string (str ps), .string rs], .slice B l.length cc] w' fun e w'' => e = .returned (.tuple #[.string (str (ps ++ loT l)), .int .i64 0]) ∧ Step (fun _ => False) w' w'') := fun w' hs =>
      types_ok w' B cc l S (hr.step hs (fun _ _ => id)) hb (by omega) ps rs (by omega) n hF
    have HR : Hid (∀ w', Step (fun _ => False) w w' → Calls Try.prog 69 #[.agg #[.string (str ps), .string rs], .slice B l.length cc] w' fun e w'' => e = .returned (.string (str (ps ++ loT l))) ∧ Step (fun _ => False) w' w'') := fun w' hs =>
      rtypes_walk w' B cc l S (hr.step hs (fun _ _ => id)) hb (by omega) ps rs (by omega) n hF
    rw [hF] at HC HL
    simp only [cntV, locV] at HC HL
    obtain ⟨Z, hZ⟩ : ∃ Z, Z = ps ++ loT l := ⟨_, rfl⟩
    rw [← hZ] at HT HR
    have hE : ((str Z).toList == (str Z).toList) = true := beq_self_eq_true _
    have g3 : ¬ (n : Int) < 0 := by omega
    have g4 : ((n : Int) == (n : Int)) = true := beq_self_eq_true _
    clear hF hr hb hZ
    go_enter Try.func11, Try.ntmps11
    go_wp2_with fail
    refine (awake14 _).mono ?_
    rintro e w5 ⟨rfl, hS5⟩
    have HB5 := Lib.hid ((Blk.new w 105 #[.string (str ps), .string rs]).step hS5 id)
    have HS5 := Lib.hid ((Step.refl.alloc _).trans hS5)
    clear hS5
    obtain ⟨X, hX⟩ : ∃ X, X = w.heap.size := ⟨_, rfl⟩
    rw [← hX] at HB5 ⊢
    clear hX
    have x0 := HB5.out.cell 0
    simp at x0
    go_wp2_with fail
    refine (HC.out _ HS5.out).mono ?_
    rintro e w6 ⟨rfl, hS6⟩
    have HB6 := Lib.hid (HB5.out.step hS6 id)
    have HS6 := Lib.hid (HS5.out.trans hS6)
    clear hS6 x0
    have x0 := HB6.out.cell 0
    have x1 := HB6.out.cell 1
    simp at x0 x1
    go_wp2_with fail
    refine (HT.out _ HS6.out).mono ?_
    rintro e w7 ⟨rfl, hS7⟩
    have HB7 := Lib.hid (HB6.out.step hS7 id)
    have HS7 := Lib.hid (HS6.out.trans hS7)
    clear hS7 x0 x1
    go_wp2_with fail
    refine (HL.out _ HS7.out).mono ?_
    rintro e w8 ⟨rfl, hw8⟩
    obtain rfl : w7 = w8 := hw8.symm
    have x0 := HB7.out.cell 0
    have x1 := HB7.out.cell 1
    simp at x0 x1
    go_wp2_with fail
    refine (HR.out _ HS7.out).mono ?_
    rintro e w9 ⟨rfl, hS9⟩
    clear x0 x1
    go_wp2_with fail
    go_ret
    exact ⟨rfl, HS7.out.trans hS9⟩

set_option maxRecDepth 100000 in
set_option maxHeartbeats 1600000 in
theorem blocals_big (w : World) (B : Option Addr) (cc n : Nat) (ps : List UInt8) (rs : ByteArray) (h : (300 : Int) < ps.length ∨ (¬ (300 : Int) < ps.length ∧ (50 : Int) < n)) :
    Calls Try.prog 11 #[.agg #[.string (str ps), .string rs], .slice B n cc] w fun e w' => e = .returned (.bool true) ∧ Step (fun _ => False) w w' := by
  have hsz := str_size ps
  rcases h with g1 | ⟨g1, g2⟩
  · have g1' : decide ((300 : Int) < (ps.length : Int)) = true := decide_eq_true g1
    go_enter Try.func11, Try.ntmps11
    go_wp2_with fail
    refine (awake14 _).mono ?_
    rintro e w5 ⟨rfl, hS5⟩
    have HB5 := Lib.hid ((Blk.new w 105 #[.string (str ps), .string rs]).step hS5 id)
    have HS5 := Lib.hid ((Step.refl.alloc _).trans hS5)
    clear hS5
    obtain ⟨X, hX⟩ : ∃ X, X = w.heap.size := ⟨_, rfl⟩
    rw [← hX] at HB5 ⊢
    clear hX
    have x0 := HB5.out.cell 0
    simp at x0
    go_wp2_with fail
    go_ret
    exact ⟨rfl, HS5.out⟩
  · have g1' : decide ((300 : Int) < (ps.length : Int)) = false := decide_eq_false g1
    have g2' : decide ((50 : Int) < (n : Int)) = true := decide_eq_true g2
    go_enter Try.func11, Try.ntmps11
    go_wp2_with fail
    refine (awake14 _).mono ?_
    rintro e w5 ⟨rfl, hS5⟩
    have HB5 := Lib.hid ((Blk.new w 105 #[.string (str ps), .string rs]).step hS5 id)
    have HS5 := Lib.hid ((Step.refl.alloc _).trans hS5)
    clear hS5
    obtain ⟨X, hX⟩ : ∃ X, X = w.heap.size := ⟨_, rfl⟩
    rw [← hX] at HB5 ⊢
    clear hX
    have x0 := HB5.out.cell 0
    simp at x0
    go_wp2_with fail
    go_ret
    exact ⟨rfl, HS5.out⟩

theorem blocals_done (W : World) (B : Option Addr) (cc : Nat) (l : List (Nat × Nat)) (hr : Reads W (fun k => k < W.heap.size) 2 B l.length (l.flatMap loC)) (hb : ∀ g ∈ l, g.1 < 4294967296 ∧ g.2 < 256) (ps : List UInt8) (rs : ByteArray) :
    Calls Try.prog 11 #[.agg #[.string (str ps), .string rs], .slice B l.length cc] W fun e W' => e = .returned (.bool true) ∧ Below W.heap.size W W' := by
  have key : Calls Try.prog 11 #[.agg #[.string (str ps), .string rs], .slice B l.length cc] W fun e W' => e = .returned (.bool true) ∧ Step (fun _ => False) W W' := by
    by_cases h1 : ps.length ≤ 300
    · by_cases h2 : l.length ≤ 50
      · exact blocals_walk W B cc l _ (fun _ h => h) hr hb ps rs h1 h2
      · exact blocals_big W B cc l.length ps rs (.inr ⟨by omega, by omega⟩)
    · exact blocals_big W B cc l.length ps rs (.inl (by omega))
  exact key.mono fun _ _ hh => ⟨hh.1, hh.2.below W.heap.size (fun _ _ hf => hf.elim) (Nat.le_refl _)⟩

/-- A row of locals out of the law's argument. -/
abbrev TL := { g : Nat × Nat // g.1 < 4294967296 ∧ g.2 < 256 }
instance : Inhabited TL := ⟨⟨(0, 0), by decide⟩⟩
section
variable {H : Type} {enc : TypeId × Value → H} {w : World} {base : Nat} {spare : Nat → Bool} {held : Bool}
theorem mk_lo (fs : Array Field) (hfs : Try.prog.underlying 217 = some (.struct fs)) (vs : List Value) (hl : vs.length = fs.size)
    (h : ∀ (j : Nat) (f : Field), fs[j]? = some f → ∃ (v : Value) (y : DataW H × List MemPlace) (n : Nat), vs[j]? = some v ∧ DataW.trod enc Try.prog w base spare held n f.type [v] = some y) : ∃ a : TL, vs = loC a.1 := by
  rw [Try.underlying217] at hfs
  injection hfs with hfs
  injection hfs with hfs
  subst hfs
  match vs, hl with
  | [v0, v1], _ =>
    obtain ⟨_, y0, n0, e0, t0⟩ := h 0 _ rfl
    obtain ⟨_, y1, n1, e1, t1⟩ := h 1 _ rfl
    simp at e0 e1
    subst e0 e1
    obtain ⟨t, ht, _, wt⟩ := DataW.trod_int Try.underlying51 t0
    obtain ⟨m, hm, _, wm⟩ := DataW.trod_int Try.underlying5 t1
    simp at ht hm
    subst ht hm
    have h2 := Go.bounds_u32 wt
    have h3 := Go.bounds_u8 wm
    exact ⟨⟨(t.toNat, m.toNat), by show t.toNat < 4294967296; omega, by show m.toNat < 256; omega⟩, by simp [loC]; omega⟩
end
end Go.Proofs.Ytfemeendkjcffaa
