/-
  frames.Stacks, its values alone: New, Push, Take, Keep, Values; and 'same' of two slices of numbers.
-/
import Derived.Test.YtokchoocelmdoaaRows
import Derived.Test.YtokchoocelmdoaaMem
set_option linter.unusedVariables false
set_option linter.unusedSimpArgs false
namespace Go.Proofs.Ytokchoocelmdoaa
open Go.RowKit

theorem E_u64 : ElemTy Try.prog 36 28 1 8 := elem_of Try.underlying36 (z := .int .u64 0) (by kernel_rfl) rfl (by decide)

/-- Numbers as cells. -/
def u64s (l : List Int) : List Value := l.map (Value.int .u64)
theorem u64s_length (l : List Int) : (u64s l).length = l.length := by simp [u64s]
theorem u64s_append (l m : List Int) : u64s (l ++ m) = u64s l ++ u64s m := by simp [u64s]
theorem u64s_one (l : List Int) : ∀ u ∈ u64s l, u.oneCell' = true := by
  intro u hu
  obtain ⟨x, _, rfl⟩ := List.mem_map.1 hu
  rfl
theorem u64s_take (l : List Int) (k : Nat) : u64s (l.take k) = (u64s l).take k := by simp [u64s]
theorem u64s_drop (l : List Int) (k : Nat) : u64s (l.drop k) = (u64s l).drop k := by simp [u64s]
theorem u64s_get (l : List Int) (k : Nat) (h : k < l.length) : (u64s l)[k]? = some (.int .u64 l[k]) := by simp [u64s, h]

/-! ### same -/
theorem same_ne {xs ys : List Int} {k : Nat} (h1 : k < xs.length) (h2 : k < ys.length) (h : xs[k] ≠ ys[k]) : decide (xs = ys) = false := by
  rw [decide_eq_false_iff_not]
  rintro rfl
  exact h rfl
theorem same_all {xs ys : List Int} (hl : xs.length = ys.length) (h : xs.take xs.length = ys.take xs.length) : decide (xs = ys) = true := by
  rw [decide_eq_true_iff]
  rw [List.take_length, hl, List.take_length] at h
  exact h
theorem take_next {xs ys : List Int} {k : Nat} (h1 : k < xs.length) (h2 : k < ys.length) (h : xs.take k = ys.take k) (he : xs[k] = ys[k]) : xs.take (k + 1) = ys.take (k + 1) := by
  rw [List.take_succ_eq_append_getElem h1, List.take_succ_eq_append_getElem h2, h, he]

set_option maxRecDepth 100000 in
set_option maxHeartbeats 800000 in
theorem same_any (w : World) (S S' : Nat → Prop) (A A' : Option Addr) (c c' : Nat) (xs ys : List Int) (hx : Reads w S 1 A xs.length (u64s xs)) (hy : Reads w S' 1 A' ys.length (u64s ys))
    (hnx : xs.length ≤ 1000000) (hny : ys.length ≤ 1000000) :
    Calls Try.prog 12 #[.slice A xs.length c, .slice A' ys.length c'] w fun e w' => e = .returned (.bool (decide (xs = ys))) ∧ ∃ m, w' = w.drewN m := by
  by_cases hl : xs.length = ys.length
  · have hl1 : ((xs.length : Int) != (ys.length : Int)) = false := by simp; omega
    have HL := Lib.hid hl
    clear hl
    go_enter Try.func12, Try.ntmps12
    go_wp2
    go_loopw [5] (fun i wr => ∃ k : Nat, k ≤ xs.length ∧ i = .int .i64 k ∧ Hid (xs.take k = ys.take k) ∧ Hid (∃ m, wr = w.drewN m)) (fun i _ => xs.length - (intOf i).toNat)
    case atStart => exact ⟨0, Nat.zero_le _, rfl, rfl, 0, rfl⟩
    case round =>
      obtain ⟨k, hk, rfl, heq, m, rfl⟩ := hrel
      by_cases hlt : k < xs.length
      · obtain ⟨a, u, rfl, _, _, hu, hc⟩ := hx.at_ hlt
        obtain ⟨a', u', rfl, _, _, hu', hc'⟩ := hy.at_ (k := k) (by have := HL.out; omega)
        rw [u64s_get _ _ hlt] at hu
        rw [u64s_get _ _ (by have := HL.out; omega)] at hu'
        obtain rfl := Option.some.inj hu
        obtain rfl := Option.some.inj hu'
        have hlty : k < ys.length := by have := HL.out; omega
        have i0 : (0 : Int) ≤ (k : Int) := by omega
        have i1 : (k : Int) < (xs.length : Int) := by omega
        have i2 : (k : Int) < (ys.length : Int) := by omega
        have HE : Hid (xs[k] = ys[k] → xs.take (k + 1) = ys.take (k + 1)) := fun he => take_next hlt hlty heq.out he
        have HN : Hid (xs[k] ≠ ys[k] → decide (xs = ys) = false) := fun he => same_ne hlt hlty he
        clear hx hy
        go_wp2_with fail
        go_quiet (fail)
        go_wp2
        · have hne : xs[k] ≠ ys[k] := bne_t ‹_›
          go_ret
          exact ⟨by rw [HN.out hne]; rfl, quiet_ex⟩
        · have he : xs[k] = ys[k] := bne_f ‹_›
          go_roundw
          case rel => exact ⟨k + 1, by omega, by go_num, HE.out he, _, rfl⟩
          case measure => simp [intOf]; omega
      · have hk' : k = xs.length := by omega
        have HA : Hid (decide (xs = ys) = true) := same_all HL.out (by rw [← hk']; exact heq.out)
        clear heq
        go_wp2
        go_ret
        exact ⟨by rw [HA.out]; rfl, m, rfl⟩
  · have hl1 : ((xs.length : Int) != (ys.length : Int)) = true := by simp; omega
    have HF : Hid (decide (xs = ys) = false) := by
      rw [Hid, decide_eq_false_iff_not]
      rintro rfl
      exact hl rfl
    clear hl
    go_enter Try.func12, Try.ntmps12
    go_wp2
    go_ret
    exact ⟨by rw [HF.out]; rfl, 0, rfl⟩

theorem same_eq (w : World) (S S' : Nat → Prop) (A A' : Option Addr) (c c' : Nat) (xs : List Int) (hx : Reads w S 1 A xs.length (u64s xs)) (hy : Reads w S' 1 A' xs.length (u64s xs)) (hn : xs.length ≤ 1000000) :
    Calls Try.prog 12 #[.slice A xs.length c, .slice A' xs.length c'] w fun e w' => e = .returned (.bool true) ∧ ∃ m, w' = w.drewN m :=
  (same_any w S S' A A' c c' xs xs hx hy hn hn).mono fun e w' ⟨he, hw⟩ => ⟨by rw [he]; simp, hw⟩

theorem same_eq' (w : World) (S S' : Nat → Prop) (A A' : Option Addr) (n n' c c' : Nat) (xs : List Int) (k k' : Nat) (l l' : List Value) (hx : Reads w S 1 A k l) (hy : Reads w S' 1 A' k' l') (hl : l = u64s xs) (hl' : l' = u64s xs) (hk : k = xs.length) (hk' : k' = xs.length)
    (hn : n = k) (hn' : n' = k') (hm : xs.length ≤ 1000000) :
    Calls Try.prog 12 #[.slice A n c, .slice A' n' c'] w fun e w' => e = .returned (.bool true) ∧ ∃ m, w' = w.drewN m := by
  subst hl hl' hn hn' hk
  rw [hk']
  rw [hk'] at hy
  exact same_eq w S S' A A' c c' xs hx hy hm

/-! ### The values of the stacks -/
/-- frames.Stacks at block g: the values xs, and three fields more. -/
structure StAt (w : World) (B g : Nat) (D : Option Addr) (c : Nat) (xs : List Int) (labels frames : Value) (most : Int) : Prop where
  blk : Blk w g 47 #[.slice D xs.length c, labels, frames, .int .i64 most]
  own : w.ownsRow B 28 1 (.slice D xs.length c) xs.length (u64s xs)
  base : B ≤ w.heap.size

/-- .. and it has turned to hold ys. -/
def Turned (w : World) (B g : Nat) (D : Option Addr) (labels frames : Value) (most : Int) (ys : List Int) (w' : World) : Prop :=
  ∃ D' c', StAt w' B g D' c' ys labels frames most ∧ Step (fun k => k = g ∨ blkOf D = some k) w w' ∧ ∀ k, blkOf D' = some k → blkOf D = some k ∨ w.heap.size ≤ k

theorem StAt.ne {w : World} {B g : Nat} {D : Option Addr} {c : Nat} {xs : List Int} {labels frames : Value} {most : Int} (h : StAt w B g D c xs labels frames most) : blkOf D ≠ some g := by
  have := own_tag h.own h.blk (by decide)
  rwa [ownBlock_slice] at this

theorem StAt.step {w w' : World} {B g : Nat} {D : Option Addr} {c : Nat} {xs : List Int} {labels frames : Value} {most : Int} (h : StAt w B g D c xs labels frames most) (hs : Step (fun _ => False) w w') :
    StAt w' B g D c xs labels frames most := ⟨h.blk.step hs id, own_step h.own hs (fun _ _ => id), Nat.le_trans h.base hs.size⟩

/-- What a step that has written a new row for the values, and then the field, leaves. -/
theorem turned_of {w w1 : World} {B g : Nat} {D D' : Option Addr} {c c' n' : Nat} {xs ys : List Int} {labels frames : Value} {most : Int} (h : StAt w B g D c xs labels frames most)
    (hs : Step (fun k => blkOf D = some k) w w1) (hn : n' = ys.length) (ho : w1.ownsRow B 28 1 (.slice D' n' c') n' (u64s ys)) (hD : ∀ k, blkOf D' = some k → blkOf D = some k ∨ w.heap.size ≤ k) :
    Turned w B g D labels frames most ys (w1.setCell ⟨g, 0, none⟩ (.slice D' n' c')) := by
  subst hn
  have hb1 : Blk w1 g _ _ := h.blk.step hs h.ne
  have hb2 := hb1.set_ 0 (.slice D' ys.length c')
  have hgD : blkOf D' ≠ some g := fun e => by
    rcases hD g e with h1 | h1
    · exact h.ne h1
    · have := h.blk.lt; omega
  refine ⟨D', c', ⟨by simpa using hb2, own_set ho (by rw [ownBlock_slice]; exact hgD) _, Nat.le_trans h.base (by simpa [World.setCell] using hs.size)⟩, ?_, hD⟩
  exact (hs.mono fun i _ hi => .inr hi).setCell (.inl (.inl rfl)) _

set_option maxRecDepth 100000 in
set_option maxHeartbeats 400000 in
theorem push_any (w : World) (B g : Nat) (D : Option Addr) (c : Nat) (xs : List Int) (labels frames : Value) (most : Int) (x : Int) (h : StAt w B g D c xs labels frames most) (hn : xs.length ≤ 1000000) :
    Calls Try.prog 16 #[.pointer (some ⟨g, 0, none⟩), .int .u64 x] w fun e w' => e = .returned (.tuple #[]) ∧ Turned w B g D labels frames most (xs ++ [x]) w' := by
  have ho := h.own
  have hb := h.blk
  have hB := h.base
  have c0 := hb.cell 0
  have f0 := hb.frozen 0
  simp at c0
  have hne := h.ne
  have h1 : ∀ u ∈ #[Value.int .u64 x].toList, u.oneCell' = true := by simp [Value.oneCell']
  have hm : xs.length + 1 ≤ maxLen := by unfold maxLen; omega
  go_enter Try.func16, Try.ntmps16
  go_wp2_with (at_builtin; refine wpList_append_src _ rfl _ _ (by rfl) E_u64 (by rfl) (ho.alloc _) (by rfl) (reads_new w #[.int .u64 x] 28 1 1 rfl) h1 hm (by omega) (by simp; omega) ?_; intro D' c' w1 hown1 hgrow hat; have hb1 := (hb.alloc (.cells #[.int .u64 x] 28)).grown hgrow hne; have c1 := hb1.cell 0; have f1 := hb1.frozen 0; simp at c1)
  go_end0
  have hs : Step (fun k => blkOf D = some k) w w1 := (Step.refl.alloc _).grown hgrow (fun k hk => .inl hk)
  refine ⟨rfl, turned_of h hs (by simp) (by rw [u64s_append]; exact hown1) fun k hk => ?_⟩
  rcases hat with e | e
  · exact .inl (e ▸ hk)
  · rw [e] at hk
    simp at hk
    right; omega

theorem take_fails (w : World) (B g : Nat) (D : Option Addr) (c : Nat) (xs : List Int) (labels frames : Value) (most : Int) (n : Int) (h : StAt w B g D c xs labels frames most) (hx : xs.length ≤ 1000000)
    (hn : n < 0 ∨ (xs.length : Int) < n) :
    Calls Try.prog 22 #[.pointer (some ⟨g, 0, none⟩), .int .i64 n] w fun e w' => e = .returned (.tuple #[.slice none 0 0, .bool false]) ∧ w = w' := by
  have c0 := h.blk.cell 0
  simp at c0
  rcases hn with hn | hn
  · go_enter Try.func22, Try.ntmps22
    go_wp2
    go_ret2
    exact ⟨rfl, rfl⟩
  · have h0 : ¬ n < 0 := by omega
    go_enter Try.func22, Try.ntmps22
    go_wp2
    go_ret2
    exact ⟨rfl, rfl⟩

/-- What Take gives: a row of its own, and the values are as many fewer. -/
def Taken (w : World) (B g : Nat) (D : Option Addr) (c : Nat) (labels frames : Value) (most : Int) (xs : List Int) (k : Nat) (e : Ending) (w' : World) : Prop :=
  ∃ A c', e = .returned (.tuple #[.slice A k c', .bool true]) ∧ w'.ownsRow w.heap.size 28 1 (.slice A k c') k (u64s (xs.drop (xs.length - k))) ∧
    StAt w' B g D c (xs.take (xs.length - k)) labels frames most ∧ Step (fun j => j = g) w w'

set_option maxRecDepth 100000 in
set_option maxHeartbeats 800000 in
theorem take_any (w : World) (B g : Nat) (D : Option Addr) (c : Nat) (xs : List Int) (labels frames : Value) (most : Int) (k : Nat) (h : StAt w B g D c xs labels frames most) (hx : xs.length ≤ 1000000)
    (hk : k ≤ xs.length) :
    Calls Try.prog 22 #[.pointer (some ⟨g, 0, none⟩), .int .i64 k] w (Taken w B g D c labels frames most xs k) := by
  have ho := h.own
  have hb := h.blk
  have hB := h.base
  have c0 := hb.cell 0
  have f0 := hb.frozen 0
  simp at c0
  have hne := h.ne
  have h0 : ¬ (k : Int) < 0 := by omega
  have h1 : ¬ (xs.length : Int) < (k : Int) := by omega
  have i1 : (0 : Int) ≤ (xs.length : Int) - (k : Int) := by omega
  have i2 : (xs.length : Int) - (k : Int) ≤ (xs.length : Int) := by omega
  have i3 : (xs.length : Int) - (k : Int) ≤ (c : Int) := by have := own_cap ho; omega
  have nw := World.new_ne w _ c0
  have hw := IntWalk.i64_in ((xs.length : Int) - (k : Int)) (by omega)
  have sl := slice_ln E_u64 D xs.length c .i64 ((xs.length : Int) - (k : Int)) (xs.length - k) k (c - (xs.length - k)) (by omega) (by omega) (by omega) rfl
  have sh := slice_hn E_u64 D xs.length c .i64 ((xs.length : Int) - (k : Int)) (xs.length - k) (by omega) (by omega)
  have hr : Reads w (fun j => blkOf D = some j) 1 (cutA D c (xs.length - k) 1) k (u64s (xs.drop (xs.length - k))) := by
    have h2 := (Reads.of_own ho).cut (k := xs.length - k) (cap := c) (by omega) (own_cap ho)
    rw [show xs.length - (xs.length - k) = k by omega, Nat.mul_one, ← u64s_drop] at h2
    rw [ownBlock_slice] at h2
    simpa [cutA] using h2
  have hfr : ((w.alloc (.cells #[] 28)).drew).ownsRow w.heap.size 28 1 (.slice (some ⟨w.heap.size, 0, none⟩) 0 0) 0 [] := World.ownsRow_made w #[] 0 (Nat.le_refl _) (by decide) rfl
  have hr' : Reads ((w.alloc (.cells #[] 28)).drew) (fun j => blkOf D = some j) 1 (cutA D c (xs.length - k) 1) k (u64s (xs.drop (xs.length - k))) := hr.step (F := fun _ => False) (Step.refl.alloc _).drew (fun _ _ => id)
  have hkeep : Hid (∀ w1, ((w.alloc (.cells #[] 28)).drew).grownBy w1 (blkOf (some ⟨w.heap.size, 0, none⟩)) → w1.cell? ⟨g, 0, none⟩ = some (.slice D xs.length c)) := fun w1 hg => by
    rw [hg.cell_far _ (by simp; have := hb.lt; omega) (by simp [blkOf]; have := hb.lt; omega)]
    exact (World.cell?_alloc_lt w _ _ hb.lt).trans c0
  have hone := u64s_one (xs.drop (xs.length - k))
  have hm : 0 + k ≤ maxLen := by unfold maxLen; omega
  go_enter Try.func22, Try.ntmps22
  go_wp2_with fail
  go_region_held3 (fun w' => w'.cell? ⟨g, 0, none⟩ = some (.slice D xs.length c)) (first | go_keep | exact hkeep.out _ hgrow)
    ((refine step_append_src _ rfl _ _ (by rfl) E_u64 (by rfl) hfr (by rfl) hr' hone hm (by omega) (by simp) ?_; intro A c' w1 hown1 hgrow hat))
  clear hr' hfr hr h0 h1
  have hs : Step (fun _ => False) w w1 := ((Step.refl.alloc _).drew).grown hgrow (fun j hj => by simp [blkOf] at hj; omega)
  have hb1 := hb.step hs id
  have c1 := hb1.cell 0
  have f1 := hb1.frozen 0
  simp at c1
  have HG := Lib.hid hgrow
  have HA := Lib.hid hat
  have HS := Lib.hid hs
  clear hgrow hat hs
  go_wp2_with fail
  go_still_tail 15, (by kernel_rfl)
  go_wp2
  go_ret2
  have hAg : blkOf A ≠ some g := fun e => by
    have := hb.lt
    rcases HA.out with e1 | e1 <;> rw [e1] at e <;> simp [blkOf] at e <;> omega
  have hDg : (Value.slice D (xs.length - k) c).ownBlock ≠ some g := by rw [ownBlock_slice]; exact hne
  have ho1 : w1.ownsRow B 28 1 (.slice D xs.length c) xs.length (u64s xs) := own_step ho HS.out (fun _ _ => id)
  have h3 := own_take ho1 (k := xs.length - k) (by omega)
  rw [Nat.mul_one, ← u64s_take] at h3
  have hl : (xs.take (xs.length - k)).length = xs.length - k := by simp
  rw [Nat.zero_add] at hown1
  refine ⟨A, c', rfl, own_set (w := w1) hown1 (by rw [ownBlock_slice]; exact hAg) _, ⟨?_, ?_, ?_⟩, ?_⟩
  · rw [hl]
    refine Blk.drew ?_
    simpa using hb1.set_ 0 (.slice D (xs.length - k) c)
  · rw [hl]
    exact own_set h3 hDg _
  · have := HS.out.size
    simp [World.setCell]
    omega
  · exact (Step.setCell (F := fun j => j = g) (HS.out.mono fun j _ hj => hj.elim) (p := ⟨g, 0, none⟩) (.inl rfl) _).drew

/-! ### Values -/
/-- What Values gives: a row of its own, like the values; nothing else has turned. -/
def Copied (w : World) (xs : List Int) (e : Ending) (w' : World) : Prop :=
  ∃ A c', e = .returned (.slice A xs.length c') ∧ w'.ownsRow w.heap.size 28 1 (.slice A xs.length c') xs.length (u64s xs) ∧ Step (fun _ => False) w w'

set_option maxRecDepth 100000 in
set_option maxHeartbeats 800000 in
theorem values_any (w : World) (B g : Nat) (D : Option Addr) (c : Nat) (xs : List Int) (labels frames : Value) (most : Int) (h : StAt w B g D c xs labels frames most) (hx : xs.length ≤ 1000000) :
    Calls Try.prog 13 #[.pointer (some ⟨g, 0, none⟩)] w (Copied w xs) := by
  have ho := h.own
  have hb := h.blk
  have c0 := hb.cell 0
  simp at c0
  have c1 := (World.cell?_alloc_lt w (.cells #[] 28) _ hb.lt).trans c0
  have hfr : (w.alloc (.cells #[] 28)).ownsRow w.heap.size 28 1 (.slice (some ⟨w.heap.size, 0, none⟩) 0 0) 0 [] := World.ownsRow_made w #[] 0 (Nat.le_refl _) (by decide) rfl
  have hr' : Reads (w.alloc (.cells #[] 28)) (fun j => blkOf D = some j) 1 D xs.length (u64s xs) := by
    have h2 := (Reads.of_own ho).step (F := fun _ => False) (Step.refl.alloc (.cells #[] 28)) (fun _ _ => id)
    rwa [ownBlock_slice] at h2
  have hone := u64s_one xs
  have hm : 0 + xs.length ≤ maxLen := by unfold maxLen; omega
  go_enter Try.func13, Try.ntmps13
  go_wp2_with (at_builtin; refine wpList_append_src _ rfl _ _ (by rfl) E_u64 (by rfl) hfr (by rfl) hr' hone hm (by omega) (by simp) ?_; intro A c' w1 hown1 hgrow hat)
  go_ret
  rw [Nat.zero_add] at hown1
  refine ⟨A, c', rfl, hown1, (Step.refl.alloc _).grown hgrow fun k hk => ?_⟩
  simp [blkOf] at hk
  right; omega

/-! ### Keep -/
theorem keep_fails (w : World) (B g : Nat) (D : Option Addr) (c : Nat) (xs : List Int) (labels frames : Value) (most : Int) (a n : Int) (h : StAt w B g D c xs labels frames most) (hx : xs.length ≤ 1000000)
    (hn : n < 0 ∨ 0 ≤ n ∧ a < 0 ∨ 0 ≤ n ∧ 0 ≤ a ∧ (xs.length : Int) - n < a) (ha : -9223372036854775808 ≤ a) (hn2 : n ≤ 9223372036854775807) :
    Calls Try.prog 17 #[.pointer (some ⟨g, 0, none⟩), .int .i64 a, .int .i64 n] w fun e w' => e = .returned (.bool false) ∧ w = w' := by
  have c0 := h.blk.cell 0
  simp at c0
  rcases hn with hn | ⟨hn, hn'⟩ | ⟨h0, h1, hn⟩
  · go_enter Try.func17, Try.ntmps17
    go_wp2
    go_ret
    exact ⟨rfl, rfl⟩
  · have h0 : ¬ n < 0 := by omega
    go_enter Try.func17, Try.ntmps17
    go_wp2
    go_ret
    exact ⟨rfl, rfl⟩
  · have h0' : ¬ n < 0 := by omega
    have h1' : ¬ a < 0 := by omega
    have hw := IntWalk.i64_in ((xs.length : Int) - n) (by omega)
    go_enter Try.func17, Try.ntmps17
    go_wp2
    go_ret
    exact ⟨rfl, rfl⟩

end Go.Proofs.Ytokchoocelmdoaa
