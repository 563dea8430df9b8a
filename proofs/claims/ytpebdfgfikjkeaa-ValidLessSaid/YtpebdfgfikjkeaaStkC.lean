/-
  opstack.Stack: Want, WantAll, Cut, Clone.
-/
import Derived.Test.YtpebdfgfikjkeaaStkB
set_option linter.unusedVariables false
set_option linter.unusedSimpArgs false
namespace Go.Proofs.Ytpebdfgfikjkeaa
open Go.RowKit

theorem StkTo.trans {w w1 w2 : World} {B g : Nat} {D D' : Option Addr} {c : Nat} {l m : List UInt8} (h : StkAt w1 B g D c l) (hs : Step (fun k => k = g ∨ blkOf D' = some k) w w1) (hD : ∀ k, blkOf D = some k → blkOf D' = some k ∨ w.heap.size ≤ k)
    (t : StkTo w1 B g D m w2) : StkTo w B g D' m w2 := by
  obtain ⟨D2, c2, h2, s2, d2⟩ := t
  refine ⟨D2, c2, h2, hs.trans' s2 (fun i hi => ?_), fun k hk => ?_⟩
  · rcases hi with hi | hi
    · exact .inl (.inl hi)
    · rcases hD i hi with e | e
      · exact .inl (.inr e)
      · exact .inr e
  · rcases d2 k hk with e | e
    · exact hD k e
    · right; have := hs.size; omega

set_option maxRecDepth 100000 in
set_option maxHeartbeats 800000 in
theorem stk_want (w : World) (B g : Nat) (D : Option Addr) (c : Nat) (l : List UInt8) (t floor : Int) (free : Bool) (h : StkAt w B g D c l) (hn : l.length ≤ 1000000) :
    Calls Try.prog 91 #[.pointer (some ⟨g, 0, none⟩), .int .u8 t, .int .i64 floor, .bool free] w (PopTo w B g D (wantF l t floor free)) := by
  have hp := stk_pop w B g D c l floor free h hn
  have hr : wantF l t floor free = (if (popF l floor free).2.2 ≠ 0 then ((popF l floor free).1, 0, (popF l floor free).2.2) else if (popF l floor free).2.1 = 0 then ((popF l floor free).1, t, 0) else if t = 0 ∨ (popF l floor free).2.1 = t then ((popF l floor free).1, (popF l floor free).2.1, 0) else ((popF l floor free).1, 0, 21)) := rfl
  generalize popF l floor free = r at hp hr
  obtain ⟨l1, got, er⟩ := r
  dsimp only at hr
  have HP := Lib.hid hp
  clear hp
  by_cases h1 : er = 0
  case neg =>
    rw [if_pos h1] at hr
    have HR := Lib.hid hr
    have e1 : (er != 0) = true := by simpa using h1
    clear hr h1
    go_enter Try.func91, Try.ntmps91
    go_wp2_with fail
    refine HP.out.mono ?_
    rintro e w1 ⟨rfl, ht⟩
    go_wp2_with fail
    go_ret2
    rw [PopTo, HR.out]
    exact ⟨rfl, ht⟩
  subst h1
  rw [if_neg (by simp)] at hr
  by_cases h2 : got = 0
  case pos =>
    rw [if_pos h2] at hr
    subst h2
    have HR := Lib.hid hr
    clear hr
    go_enter Try.func91, Try.ntmps91
    go_wp2_with fail
    refine HP.out.mono ?_
    rintro e w1 ⟨rfl, ht⟩
    go_wp2_with fail
    go_ret2
    rw [PopTo, HR.out]
    exact ⟨rfl, ht⟩
  rw [if_neg h2] at hr
  have e2 : (got == 0) = false := by simpa using h2
  by_cases h3 : t = 0
  case pos =>
    subst h3
    rw [if_pos (.inl rfl)] at hr
    have HR := Lib.hid hr
    clear hr h2
    go_enter Try.func91, Try.ntmps91
    go_wp2_with fail
    refine HP.out.mono ?_
    rintro e w1 ⟨rfl, ht⟩
    go_wp2_with fail
    go_ret2
    rw [PopTo, HR.out]
    exact ⟨rfl, ht⟩
  have e3 : (t == 0) = false := by simpa using h3
  by_cases h4 : got = t
  case pos =>
    subst h4
    rw [if_pos (.inr rfl)] at hr
    have HR := Lib.hid hr
    clear hr h2 h3
    go_enter Try.func91, Try.ntmps91
    go_wp2_with fail
    refine HP.out.mono ?_
    rintro e w1 ⟨rfl, ht⟩
    go_wp2_with fail
    go_ret2
    rw [PopTo, HR.out]
    exact ⟨rfl, ht⟩
  have e4 : (got == t) = false := by simpa using h4
  rw [if_neg (by rintro (h | h); exact h3 h; exact h4 h)] at hr
  have HR := Lib.hid hr
  clear hr h2 h3 h4
  go_enter Try.func91, Try.ntmps91
  go_wp2_with fail
  refine HP.out.mono ?_
  rintro e w1 ⟨rfl, ht⟩
  go_wp2_with fail
  go_ret2
  rw [PopTo, HR.out]
  exact ⟨rfl, ht⟩

theorem popF_le (l : List UInt8) (floor : Int) (free : Bool) : (popF l floor free).1.length ≤ l.length := by
  unfold popF
  split
  · exact Nat.le_refl _
  · simp
theorem wantF_fst (l : List UInt8) (t floor : Int) (free : Bool) : (wantF l t floor free).1 = (popF l floor free).1 := by
  unfold wantF
  simp only
  split
  · rfl
  · split
    · rfl
    · split <;> rfl

def WantAllTo (w : World) (B g : Nat) (D : Option Addr) (r : List UInt8 × Int) (e : Ending) (w' : World) : Prop :=
  e = .returned (.int .i64 r.2) ∧ StkTo w B g D r.1 w'

set_option maxRecDepth 100000 in
set_option maxHeartbeats 800000 in
theorem stk_wantAll (w : World) (B g : Nat) (D : Option Addr) (c : Nat) (l t : List UInt8) (floor : Int) (free : Bool) (h : StkAt w B g D c l) (hn : l.length ≤ 1000000) (hnt : t.length ≤ 1000000) :
    Calls Try.prog 93 #[.pointer (some ⟨g, 0, none⟩), .string (str t), .int .i64 floor, .bool free] w (WantAllTo w B g D (wantAllF l t.reverse floor free)) := by
  have hsz := str_size t
  have HSZ := Lib.hid hsz
  have hw0 := IntWalk.i64_in ((t.length : Int) - 1) (by omega)
  clear hsz
  have hss : (str t).size = t.length := HSZ.out
  go_enter Try.func93, Try.ntmps93
  go_wp2_with fail
  go_loopw [9] (fun i wr => ∃ (k : Nat) (D1 : Option Addr) (c1 : Nat) (l1 : List UInt8), k ≤ t.length ∧ i = .int .i64 ((k : Int) - 1) ∧ StkAt wr B g D1 c1 l1 ∧ Step (fun k => k = g ∨ blkOf D = some k) w wr ∧ (∀ k, blkOf D1 = some k → blkOf D = some k ∨ w.heap.size ≤ k) ∧
      l1.length ≤ l.length ∧ Hid (wantAllF l t.reverse floor free = wantAllF l1 (t.take k).reverse floor free)) (fun i _ => (intOf i + 1).toNat)
  case atStart => exact ⟨t.length, D, c, l, Nat.le_refl _, rfl, h, Step.refl, fun _ hk => .inl hk, Nat.le_refl _, by unfold Hid; rw [List.take_length]⟩
  case round =>
    obtain ⟨k, D1, c1, l1, hk, hi, h1, s1, d1, hl1, HW⟩ := hrel
    have H1 := Lib.hid h1
    have S1 := Lib.hid s1
    have DD1 := Lib.hid d1
    clear h1 s1 d1 h
    rcases k with _ | j
    · obtain rfl : u9 = .int .i64 (-1) := by rw [hi]; rfl
      clear hi
      go_wp2_with fail
      go_ret
      refine ⟨by rw [HW.out]; rfl, ?_⟩
      rw [HW.out]
      exact ⟨D1, c1, H1.out, S1.out, DD1.out⟩
    · obtain rfl : u9 = .int .i64 (j : Int) := by rw [hi]; congr 1; omega
      have hj : j < t.length := by omega
      have hrev : (t.take (j + 1)).reverse = t[j] :: (t.take j).reverse := by rw [List.take_succ_eq_append_getElem hj]; simp
      rw [hrev] at HW
      have HX : ∀ W, (Instr.index 9 (.string (str t)) (.int .i64 (j : Int))).run Try.prog W = .ok (.int .u8 (t[j].toNat : Int)) W := fun W => index_str Try.underlying9 t j hj W
      have hwj := IntWalk.i64_in ((j : Int) - 1) (by omega)
      have hp := stk_want wr B g D1 c1 l1 (t[j].toNat : Int) floor free H1.out (by omega)
      have hwl := wantF_fst l1 (t[j].toNat : Int) floor free
      have hpl := popF_le l1 floor free
      rw [← hwl] at hpl
      have hunf : wantAllF l1 (t[j] :: (t.take j).reverse) floor free = if (wantF l1 t[j].toNat floor free).2.2 ≠ 0 then ((wantF l1 t[j].toNat floor free).1, (wantF l1 t[j].toNat floor free).2.2) else wantAllF (wantF l1 t[j].toNat floor free).1 (t.take j).reverse floor free := rfl
      rw [hunf] at HW
      clear hi hrev hunf hwl
      generalize wantF l1 (t[j].toNat : Int) floor free = r at hp HW hpl
      obtain ⟨l2, got, er⟩ := r
      dsimp only at HW hpl
      have HP := Lib.hid hp
      clear hp
      by_cases he : er = 0
      · subst he
        rw [if_neg (by simp)] at HW
        go_wp2_with fail
        refine HP.out.mono ?_
        rintro e w2 ⟨rfl, D2, c2, h2, s2, d2⟩
        go_wp2_with fail
        go_roundw
        case rel =>
          refine ⟨j, D2, c2, l2, by omega, rfl, h2, S1.out.trans' s2 (fun i hi => ?_), fun k hk => ?_, by omega, HW⟩
          · rcases hi with hi | hi
            · exact .inl (.inl hi)
            · rcases DD1.out i hi with e | e
              · exact .inl (.inr e)
              · exact .inr e
          · rcases d2 k hk with e | e
            · exact DD1.out k e
            · right; have := S1.out.size; omega
        case measure => simp [intOf]
      · have e1 : (er != 0) = true := by simpa using he
        rw [if_pos he] at HW
        clear he
        go_wp2_with fail
        refine HP.out.mono ?_
        rintro e w2 ⟨rfl, t2⟩
        go_wp2_with fail
        go_ret
        refine ⟨by rw [HW.out]; rfl, ?_⟩
        rw [HW.out]
        exact StkTo.trans H1.out S1.out DD1.out t2
end Go.Proofs.Ytpebdfgfikjkeaa
