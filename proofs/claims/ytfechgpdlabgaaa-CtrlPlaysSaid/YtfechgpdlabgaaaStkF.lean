/-
  OpstackPlays: 'do', call by call.
-/
import Derived.Test.YtfechgpdlabgaaaStkE
set_option linter.unusedVariables false
set_option linter.unusedSimpArgs false
namespace Go.Proofs.Ytfechgpdlabgaaa
open Go.RowKit

/-- A call: creellaw21.Op. -/
structure SOp where
  kind : Int
  n : Int
  t : UInt8
  s : List UInt8
  free : Bool
def SOp.cells (o : SOp) : List Value := [.int .i64 o.kind, .int .i64 o.n, .int .u8 (o.t.toNat : Int), .string (str o.s), .bool o.free]
def SOp.val (o : SOp) : Value := .agg #[.int .i64 o.kind, .int .i64 o.n, .int .u8 (o.t.toNat : Int), .string (str o.s), .bool o.free]

theorem popF_t (l : List UInt8) (floor : Int) (free : Bool) : 0 ≤ (popF l floor free).2.1 ∧ (popF l floor free).2.1 ≤ 255 := by
  unfold popF
  split
  · exact ⟨Int.le_refl _, by simp⟩
  · have := UInt8.toNat_lt (l.getD (l.length - 1) 0)
    exact ⟨by simp, by simp only; omega⟩
theorem wantF_t (l : List UInt8) (t floor : Int) (free : Bool) (h : 0 ≤ t ∧ t ≤ 255) : 0 ≤ (wantF l t floor free).2.1 ∧ (wantF l t floor free).2.1 ≤ 255 := by
  have hp := popF_t l floor free
  unfold wantF
  simp only
  split
  · exact ⟨Int.le_refl _, by simp⟩
  · split
    · exact h
    · split
      · exact hp
      · exact ⟨Int.le_refl _, by simp⟩
theorem wantAllF_le : ∀ (t l : List UInt8) (floor : Int) (free : Bool), (wantAllF l t floor free).1.length ≤ l.length
  | [], _, _, _ => Nat.le_refl _
  | t :: ts, l, floor, free => by
    rw [wantAllF]
    have h := popF_le l floor free
    rw [← wantF_fst l (t.toNat : Int) floor free] at h
    split
    · exact h
    · exact Nat.le_trans (wantAllF_le ts _ floor free) h

/-- What 'do' makes of the text. -/
def doF (l : List UInt8) (o : SOp) : List UInt8 :=
  if o.kind = 0 then l ++ [o.t] else if o.kind = 1 then l ++ o.s else if o.kind = 2 then (popF l o.n o.free).1 else if o.kind = 3 then (wantF l (o.t.toNat : Int) o.n o.free).1
  else if o.kind = 4 then (wantAllF l o.s.reverse o.n o.free).1 else if o.kind = 5 then cutF l o.n else l
theorem doF_le (l : List UInt8) (o : SOp) (h : o.s.length ≤ 50) : (doF l o).length ≤ l.length + 50 := by
  unfold doF
  split
  · simp
  split
  · simp; omega
  split
  · have := popF_le l o.n o.free; omega
  split
  · rw [wantF_fst]; have := popF_le l o.n o.free; omega
  split
  · have := wantAllF_le o.s.reverse l o.n o.free; omega
  split
  · unfold cutF; split
    · simp; omega
    · omega
  · omega

def DoTo (w : World) (B g : Nat) (D : Option Addr) (l : List UInt8) (e : Ending) (w' : World) : Prop :=
  e = .returned (.tuple #[.string (str l), .bool true]) ∧ StkTo w B g D l w'

/-- The box of the call stands behind what a stack's method has turned. -/
theorem box_kept {w w1 w2 : World} {B g : Nat} {D : Option Addr} {c : Nat} {l m : List UInt8} {t : TypeId} {cs : Array Value} (h : StkAt w B g D c l) (ht : StkTo (w.alloc (.cells cs t)) B g D m w2) : Blk w2 w.heap.size t cs := by
  obtain ⟨D', c', _, s, _⟩ := ht
  refine (Blk.new w t cs).step s ?_
  rintro (e | e)
  · have := h.blk.lt; omega
  · have := own_lt h.own _ (by rw [ownBlock_slice]; exact e); omega
theorem do_shut {w w2 : World} {B g : Nat} {D : Option Addr} {c : Nat} {l m : List UInt8} {o : Obj} (h : StkAt w B g D c l) (ht : StkTo (w.alloc o) B g D m w2) : StkTo w B g D m w2 :=
  StkTo.trans (h.step (F := fun _ => False) (Step.refl.alloc o) id (fun _ _ => id)) (Step.refl.alloc o) (fun _ hk => .inl hk) ht
theorem StkTo.drewN {w w' : World} {B g : Nat} {D : Option Addr} {l : List UInt8} (h : StkTo w B g D l w') (n : Nat) : StkTo w B g D l (w'.drewN n) := by
  obtain ⟨D', c', h1, h2, h3⟩ := h
  exact ⟨D', c', h1.step (F := fun _ => False) (Step.refl.drewN n) id (fun _ _ => id), h2.drewN n, h3⟩

section
variable (w : World) (B g : Nat) (D : Option Addr) (c : Nat) (l : List UInt8) (n : Int) (t : UInt8) (s : List UInt8) (free : Bool) (h : StkAt w B g D c l) (hn : l.length ≤ 100000)
include h hn

set_option maxRecDepth 100000 in
set_option maxHeartbeats 1600000 in
theorem do_0 : Calls Try.prog 29 #[.pointer (some ⟨g, 0, none⟩), .string (str l), .agg #[.int .i64 0, .int .i64 n, .int .u8 (t.toNat : Int), .string (str s), .bool free]] w (DoTo w B g D (l ++ [t])) := by
  have h1 := h.step (F := fun _ => False) (Step.refl.alloc (.cells #[.int .i64 0, .int .i64 n, .int .u8 (t.toNat : Int), .string (str s), .bool free] 55)) id (fun _ _ => id)
  have H1 := Lib.hid h1
  have H := Lib.hid h
  have hz := str_size l
  clear h1 h
  go_enter Try.func29, Try.ntmps29
  go_wp2_with fail
  refine (stk_push _ _ _ _ _ l t H1.out (by omega)).mono ?_
  rintro e w2 ⟨rfl, tt⟩
  have hbx := box_kept (w1 := w) H.out tt
  have c2 := hbx.cell 2
  simp at c2
  have T := Lib.hid (do_shut H.out tt)
  have hcv := run_conv_bytes (P := Try.prog) (w2.alloc (.cells #[.int .u8 (t.toNat : Int)] 5)) 46 9 5 Try.underlying46 Try.underlying5 Try.underlying9 (c := 1) (l := [t]) (reads_new w2 #[.int .u8 (t.toNat : Int)] 5 1 1 rfl)
  have hap := str_append l [t]
  have hz1 : (str [t]).size = 1 := rfl
  clear tt hbx
  go_wp2_with fail
  go_ret2
  refine ⟨rfl, ?_⟩
  obtain ⟨D', c', h1, h2, h3⟩ := T.out
  exact ⟨D', c', h1.step (F := fun _ => False) (Step.refl.alloc _) id (fun _ _ => id), h2.alloc _, h3⟩

set_option maxRecDepth 100000 in
set_option maxHeartbeats 1600000 in
theorem do_1 (hs : s.length ≤ 1000) : Calls Try.prog 29 #[.pointer (some ⟨g, 0, none⟩), .string (str l), .agg #[.int .i64 1, .int .i64 n, .int .u8 (t.toNat : Int), .string (str s), .bool free]] w (DoTo w B g D (l ++ s)) := by
  have h1 := h.step (F := fun _ => False) (Step.refl.alloc (.cells #[.int .i64 1, .int .i64 n, .int .u8 (t.toNat : Int), .string (str s), .bool free] 55)) id (fun _ _ => id)
  have H1 := Lib.hid h1
  have H := Lib.hid h
  have hz := str_size l
  have hzs := str_size s
  have hap := str_append l s
  clear h1 h
  go_enter Try.func29, Try.ntmps29
  go_wp2_with fail
  refine (stk_pushAll _ _ _ _ _ l s H1.out (by omega) (by omega)).mono ?_
  rintro e w2 ⟨rfl, tt⟩
  have hbx := box_kept (w1 := w) H.out tt
  have c3 := hbx.cell 3
  simp at c3
  have T := Lib.hid (do_shut H.out tt)
  clear tt hbx
  go_wp2_with fail
  go_ret2
  exact ⟨rfl, T.out⟩

set_option maxRecDepth 100000 in
set_option maxHeartbeats 1600000 in
theorem do_2 : Calls Try.prog 29 #[.pointer (some ⟨g, 0, none⟩), .string (str l), .agg #[.int .i64 2, .int .i64 n, .int .u8 (t.toNat : Int), .string (str s), .bool free]] w (DoTo w B g D (popF l n free).1) := by
  have h1 := h.step (F := fun _ => False) (Step.refl.alloc (.cells #[.int .i64 2, .int .i64 n, .int .u8 (t.toNat : Int), .string (str s), .bool free] 55)) id (fun _ _ => id)
  have H1 := Lib.hid h1
  have H := Lib.hid h
  have hb := popF_t l n free
  have hp := Lib.hid (stk_pop _ _ _ _ _ l n free H1.out (by omega))
  have hr := Lib.hid (fun W => ref_pop W l n free (by omega))
  clear h1 h H1
  generalize popF l n free = r at hb hp hr ⊢
  obtain ⟨l2, u, er⟩ := r
  obtain ⟨hb1, hb2⟩ := hb
  dsimp only at hb1 hb2
  go_enter Try.func29, Try.ntmps29
  go_wp2_with fail
  refine hp.out.mono ?_
  rintro e w2 ⟨rfl, tt⟩
  have hbx := box_kept (w1 := w) H.out tt
  have c1 := hbx.cell 1
  have c4 := hbx.cell 4
  simp at c1 c4
  have T := Lib.hid (do_shut H.out tt)
  clear tt hbx hp
  go_wp2_with fail
  refine (hr.out _).mono ?_
  rintro e w3 ⟨rfl, m, rfl⟩
  go_wp2_with fail
  go_ret2
  exact ⟨rfl, T.out.drewN m⟩

set_option maxRecDepth 100000 in
set_option maxHeartbeats 1600000 in
theorem do_3 : Calls Try.prog 29 #[.pointer (some ⟨g, 0, none⟩), .string (str l), .agg #[.int .i64 3, .int .i64 n, .int .u8 (t.toNat : Int), .string (str s), .bool free]] w (DoTo w B g D (wantF l (t.toNat : Int) n free).1) := by
  have h1 := h.step (F := fun _ => False) (Step.refl.alloc (.cells #[.int .i64 3, .int .i64 n, .int .u8 (t.toNat : Int), .string (str s), .bool free] 55)) id (fun _ _ => id)
  have H1 := Lib.hid h1
  have H := Lib.hid h
  have ht1 : (0 : Int) ≤ (t.toNat : Int) := by omega
  have ht2 : (t.toNat : Int) ≤ 255 := by have := UInt8.toNat_lt t; omega
  have hb := wantF_t l (t.toNat : Int) n free ⟨ht1, ht2⟩
  have hp := Lib.hid (stk_want _ _ _ _ _ l (t.toNat : Int) n free H1.out (by omega))
  have hr := Lib.hid (fun W => ref_want W l (t.toNat : Int) n free (by omega))
  clear h1 h H1
  generalize wantF l (t.toNat : Int) n free = r at hb hp hr ⊢
  obtain ⟨l2, u, er⟩ := r
  obtain ⟨hb1, hb2⟩ := hb
  dsimp only at hb1 hb2
  go_enter Try.func29, Try.ntmps29
  go_wp2_with fail
  refine hp.out.mono ?_
  rintro e w2 ⟨rfl, tt⟩
  have hbx := box_kept (w1 := w) H.out tt
  have c1 := hbx.cell 1
  have c2 := hbx.cell 2
  have c4 := hbx.cell 4
  simp at c1 c2 c4
  have T := Lib.hid (do_shut H.out tt)
  clear tt hbx hp
  go_wp2_with fail
  refine (hr.out _).mono ?_
  rintro e w3 ⟨rfl, m, rfl⟩
  go_wp2_with fail
  go_ret2
  exact ⟨rfl, T.out.drewN m⟩

set_option maxRecDepth 100000 in
set_option maxHeartbeats 1600000 in
theorem do_4 (hs : s.length ≤ 1000) : Calls Try.prog 29 #[.pointer (some ⟨g, 0, none⟩), .string (str l), .agg #[.int .i64 4, .int .i64 n, .int .u8 (t.toNat : Int), .string (str s), .bool free]] w (DoTo w B g D (wantAllF l s.reverse n free).1) := by
  have h1 := h.step (F := fun _ => False) (Step.refl.alloc (.cells #[.int .i64 4, .int .i64 n, .int .u8 (t.toNat : Int), .string (str s), .bool free] 55)) id (fun _ _ => id)
  have H1 := Lib.hid h1
  have H := Lib.hid h
  have hp := Lib.hid (stk_wantAll _ _ _ _ _ l s n free H1.out (by omega) (by omega))
  have hr := Lib.hid (fun W => ref_wantAll W l s n free (by omega) (by omega))
  clear h1 h H1
  generalize wantAllF l s.reverse n free = r at hp hr ⊢
  obtain ⟨l2, er⟩ := r
  go_enter Try.func29, Try.ntmps29
  go_wp2_with fail
  refine hp.out.mono ?_
  rintro e w2 ⟨rfl, tt⟩
  have hbx := box_kept (w1 := w) H.out tt
  have c1 := hbx.cell 1
  have c3 := hbx.cell 3
  have c4 := hbx.cell 4
  simp at c1 c3 c4
  have T := Lib.hid (do_shut H.out tt)
  clear tt hbx hp
  go_wp2_with fail
  refine (hr.out _).mono ?_
  rintro e w3 ⟨rfl, m, rfl⟩
  go_wp2_with fail
  go_ret2
  exact ⟨rfl, T.out.drewN m⟩

set_option maxRecDepth 100000 in
set_option maxHeartbeats 1600000 in
theorem do_5 : Calls Try.prog 29 #[.pointer (some ⟨g, 0, none⟩), .string (str l), .agg #[.int .i64 5, .int .i64 n, .int .u8 (t.toNat : Int), .string (str s), .bool free]] w (DoTo w B g D (cutF l n)) := by
  have h1 := h.step (F := fun _ => False) (Step.refl.alloc (.cells #[.int .i64 5, .int .i64 n, .int .u8 (t.toNat : Int), .string (str s), .bool free] 55)) id (fun _ _ => id)
  have H1 := Lib.hid h1
  have H := Lib.hid h
  have hz := str_size l
  have hp := Lib.hid (stk_cut _ _ _ _ _ l n H1.out (by omega))
  clear h1 h H1
  by_cases h0 : n < 0
  · have HC : Hid (cutF l n = l) := by unfold Hid cutF; rw [if_neg (by omega)]
    go_enter Try.func29, Try.ntmps29
    go_wp2_with fail
    refine hp.out.mono ?_
    rintro e w2 ⟨rfl, tt⟩
    have hbx := box_kept (w1 := w) H.out tt
    have c1 := hbx.cell 1
    simp at c1
    have T := Lib.hid (do_shut H.out tt)
    clear tt hbx hp
    go_wp2_with fail
    go_ret2
    exact ⟨by rw [HC.out]; rfl, T.out⟩
  · obtain ⟨k, rfl⟩ := Int.eq_ofNat_of_zero_le (show 0 ≤ n by omega)
    by_cases hk : k < l.length
    · have HC : Hid (cutF l (k : Int) = l.take k) := by unfold Hid cutF; rw [if_pos (by omega)]; rfl
      have i1 : (k : Int) < (l.length : Int) := by omega
      have hsl := str_slice_h Try.underlying9 l .i64 (k : Int) k rfl (by omega) (P := Try.prog)
      go_enter Try.func29, Try.ntmps29
      go_wp2_with fail
      refine hp.out.mono ?_
      rintro e w2 ⟨rfl, tt⟩
      have hbx := box_kept (w1 := w) H.out tt
      have c1 := hbx.cell 1
      simp at c1
      have T := Lib.hid (do_shut H.out tt)
      clear tt hbx hp
      go_wp2_with fail
      go_ret2
      exact ⟨by rw [HC.out]; rfl, T.out⟩
    · have HC : Hid (cutF l (k : Int) = l) := by unfold Hid cutF; rw [if_neg (by omega)]
      have i1 : ¬ (k : Int) < (l.length : Int) := by omega
      go_enter Try.func29, Try.ntmps29
      go_wp2_with fail
      refine hp.out.mono ?_
      rintro e w2 ⟨rfl, tt⟩
      have hbx := box_kept (w1 := w) H.out tt
      have c1 := hbx.cell 1
      simp at c1
      have T := Lib.hid (do_shut H.out tt)
      clear tt hbx hp
      go_wp2_with fail
      go_ret2
      exact ⟨by rw [HC.out]; rfl, T.out⟩

omit hn in
set_option maxRecDepth 100000 in
set_option maxHeartbeats 1600000 in
theorem do_else (k : Int) (h0 : (k == 0) = false) (h1' : (k == 1) = false) (h2 : (k == 2) = false) (h3 : (k == 3) = false) (h4 : (k == 4) = false) (h5 : (k == 5) = false) :
    Calls Try.prog 29 #[.pointer (some ⟨g, 0, none⟩), .string (str l), .agg #[.int .i64 k, .int .i64 n, .int .u8 (t.toNat : Int), .string (str s), .bool free]] w (DoTo w B g D l) := by
  have H : Hid (StkTo w B g D l (w.alloc (.cells #[.int .i64 k, .int .i64 n, .int .u8 (t.toNat : Int), .string (str s), .bool free] 55))) :=
    ⟨D, c, h.step (F := fun _ => False) (Step.refl.alloc _) id (fun _ _ => id), Step.refl.alloc _, fun _ hk => .inl hk⟩
  clear h
  go_enter Try.func29, Try.ntmps29
  go_wp2_with fail
  go_ret2
  exact ⟨rfl, H.out⟩

theorem do_any (o : SOp) (hs : o.s.length ≤ 1000) : Calls Try.prog 29 #[.pointer (some ⟨g, 0, none⟩), .string (str l), o.val] w (DoTo w B g D (doF l o)) := by
  obtain ⟨k, n, t, s, free⟩ := o
  unfold SOp.val doF
  dsimp only at hs ⊢
  by_cases h0 : k = 0
  · subst h0; exact do_0 w B g D c l n t s free h hn
  by_cases h1 : k = 1
  · subst h1; exact do_1 w B g D c l n t s free h hn hs
  by_cases h2 : k = 2
  · subst h2; exact do_2 w B g D c l n t s free h hn
  by_cases h3 : k = 3
  · subst h3; exact do_3 w B g D c l n t s free h hn
  by_cases h4 : k = 4
  · subst h4; exact do_4 w B g D c l n t s free h hn hs
  by_cases h5 : k = 5
  · subst h5; exact do_5 w B g D c l n t s free h hn
  rw [if_neg h0, if_neg h1, if_neg h2, if_neg h3, if_neg h4, if_neg h5]
  exact do_else w B g D c l n t s free h k (by simpa using h0) (by simpa using h1) (by simpa using h2) (by simpa using h3) (by simpa using h4) (by simpa using h5)
end
end Go.Proofs.Ytfechgpdlabgaaa
