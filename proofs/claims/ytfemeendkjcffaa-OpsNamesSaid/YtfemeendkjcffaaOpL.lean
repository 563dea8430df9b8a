/-
  ops: the law OpsNames.
-/
import Derived.Test.YtfemeendkjcffaaOpK
set_option linter.unusedVariables false
set_option linter.unusedSimpArgs false
namespace Go.Proofs.Ytfemeendkjcffaa
open Go.RowKit

/-- The last row of a name. -/
def wantF (l : List Rr) (s : List UInt8) : Int × Bool := l.foldl (fun a r => if r.name = s then (r.op, true) else a) (0, false)
theorem wantF_snoc (l : List Rr) (r : Rr) (s : List UInt8) : wantF (l ++ [r]) s = if r.name = s then (r.op, true) else wantF l s := by
  rw [wantF, List.foldl_append]; rfl
theorem wantF_fold (s : List UInt8) : ∀ (l : List Rr) (a : Int × Bool), (∀ r ∈ l, ¬ r.name = s) → l.foldl (fun a r => if r.name = s then (r.op, true) else a) a = a
  | [], _, _ => rfl
  | r :: l, a, h => by
    rw [List.foldl_cons, if_neg (h r (by simp))]
    exact wantF_fold s l a fun x hx => h x (by simp [hx])
theorem wantF_none (s : List UInt8) (l : List Rr) (h : ∀ r ∈ l, ¬ r.name = s) : wantF l s = (0, false) := wantF_fold s l (0, false) h
theorem findGo_le (s : List UInt8) : ∀ f k : Nat, (findGo s f k).1 = 0 ∨ (findGo s f k).1 < k + f
  | 0, _ => .inl rfl
  | f + 1, k => by
    rw [findGo]
    split
    · right; show k < k + (f + 1); omega
    · rcases findGo_le s f (k + 1) with h | h
      · exact .inl h
      · right; omega
theorem findF_lt (s : List UInt8) : (findF s).1 < 256 := by
  rw [findF]
  split
  · decide
  · rcases findGo_le s 256 0 with h | h <;> omega
theorem findGo_none (s : List UInt8) : ∀ f k : Nat, (∀ j, k ≤ j → j < k + f → ¬ (infF j).name = s) → findGo s f k = (0, false)
  | 0, _, _ => rfl
  | f + 1, k, h => by
    rw [findGo, if_neg (h k (by omega) (by omega))]
    exact findGo_none s f (k + 1) fun j h1 h2 => h j (by omega) (by omega)

def rows256 : List Rr := rowsA 256
/-- What the tables must be for names to be their own. -/
def nameB (op : Nat) : Bool :=
  decide (findF (infF op).name = if (infF op).name = [] then (0, false) else (op, true)) &&
    (if (ofR op).2 then decide ((ofR op).1.name = (infF op).name) && decide (¬ (ofR op).1.name = []) && decide ((ofR op).1.op = (op : Int)) && decide (wantF rows256 (ofR op).1.name = ((op : Int), true)) else decide ((infF op).name = []))
theorem name_all : (List.range 256).all nameB = true := by kernel_rfl
theorem name_at (op : Nat) (h : op < 256) : nameB op = true := List.all_eq_true.1 name_all op (List.mem_range.2 h)

theorem want_find (s : List UInt8) : wantF rows256 s = (((findF s).1 : Int), (findF s).2) := by
  by_cases hex : ∃ op, op < 256 ∧ (infF op).name = s ∧ ¬ s = []
  · obtain ⟨op, hop, hs, hne⟩ := hex
    have h := name_at op hop
    rw [nameB, Bool.and_eq_true] at h
    obtain ⟨h1, h2⟩ := h
    have h1 := of_decide_eq_true h1
    rw [hs, if_neg hne] at h1
    cases hok : (ofR op).2 with
    | false =>
      rw [hok] at h2
      exact absurd (hs ▸ of_decide_eq_true h2) hne
    | true =>
      rw [hok, if_pos rfl] at h2
      simp only [Bool.and_eq_true, decide_eq_true_eq] at h2
      rw [h1, ← hs, ← h2.1.1.1, h2.2]
  · have hf : findF s = (0, false) := by
      unfold findF
      by_cases he : s = []
      · rw [if_pos he]
      · rw [if_neg he]
        exact findGo_none s 256 0 fun j _ hj hn => hex ⟨j, by omega, hn, he⟩
    rw [hf]
    refine wantF_none s _ fun r hr hn => ?_
    obtain ⟨op, hop, hr2⟩ := List.mem_filterMap.1 hr
    have hop := List.mem_range.1 hop
    have h := name_at op hop
    rw [nameB, Bool.and_eq_true] at h
    cases hok : (ofR op).2 with
    | false => rw [hok] at hr2; simp at hr2
    | true =>
      rw [hok, if_pos rfl] at hr2
      obtain rfl := Option.some.inj hr2
      have h2 := h.2
      rw [hok, if_pos rfl] at h2
      simp only [Bool.and_eq_true, decide_eq_true_eq] at h2
      exact hex ⟨op, hop, by rw [← h2.1.1.1, hn], by rw [← hn]; exact h2.1.1.2⟩

set_option maxRecDepth 100000 in
set_option maxHeartbeats 1600000 in
theorem names_walk (w : World) (s : List UInt8) (op : Nat) (h : op < 256) : Calls Try.prog 4 #[.string (str s), .int .u8 op] w fun e w' => e = .returned (.bool true) ∧ Step (fun _ => False) w w' := by
  have hsz := str_size s
  by_cases h100 : (100 : Int) < (s.length : Int)
  · go_enter Try.func4, Try.ntmps4
    go_wp2_with fail
    refine (awake06 _).mono ?_
    rintro e w5 ⟨rfl, hS5⟩
    go_wp2_with fail
    go_ret
    exact ⟨rfl, hS5⟩
  · have hwf := Lib.hid (want_find s)
    have hl256 : (rowsA 256).length ≤ 256 := rowsA_le 256
    have HW : Hid (rowsA 256 = rows256) := rfl
    have HRows : Hid (∀ w : World, Calls Try.prog 30 #[] w fun e w' => ∃ D c, e = .returned (.slice D (rowsA 256).length c) ∧ Reads w' (fun k => w.heap.size ≤ k) 6 D (rowsA 256).length ((rowsA 256).flatMap Rr.cells) ∧ Step (fun _ => False) w w') := rows_walk
    rw [HW.out] at HRows hl256
    obtain ⟨rows, hrows⟩ : ∃ rows, rows = rows256 := ⟨_, rfl⟩
    rw [← hrows] at HRows hwf hl256
    have HF : Hid (∀ w : World, Calls Try.prog 31 #[.string (str s)] w fun e w' => e = .returned (.tuple #[.int .u8 ((findF s).1 : Int), .bool (findF s).2]) ∧ Step (fun _ => False) w w') := fun w => find_walk w s
    clear HW hrows
    go_enter Try.func4, Try.ntmps4
    go_wp2_with fail
    refine (awake06 _).mono ?_
    rintro e w5 ⟨rfl, hS5⟩
    have HS5 := Lib.hid hS5
    clear hS5
    go_wp2_with fail
    refine (HRows.out _).mono ?_
    rintro e w6 ⟨D, c, rfl, hR6, hS6⟩
    have HR6 := Lib.hid hR6
    have HS6 := Lib.hid (HS5.out.trans hS6)
    clear hS6 hR6 HS5 HRows
    go_wp2_with fail
    go_loopw [6, 7, 8] (fun wv bv iv wr => ∃ (k : Nat), k ≤ rows.length ∧ iv = .int .i64 (k : Int) ∧ wv = .int .i64 (wantF (rows.take k) s).1 ∧ bv = .bool (wantF (rows.take k) s).2 ∧ Hid (wr = w6)) (fun _ _ iv _ => rows.length + 1 - (intOf iv).toNat)
    case atStart => exact ⟨0, by omega, rfl, rfl, rfl, by first | exact Lib.hid trivial | rfl⟩
    case round =>
      obtain ⟨k, hk, rfl, rfl, rfl, hq⟩ := hrel
      have hq' := hq.out
      subst hq'
      by_cases hlt : k < rows.length
      · have hlt' : (k : Int) < (rows.length : Int) := by omega
        have hw1 := IntWalk.i64_in ((k : Int) + 1) (by omega)
        have hT := Lib.hid (show wantF (rows.take (k + 1)) s = if rows[k].name = s then (rows[k].op, true) else wantF (rows.take k) s by rw [List.take_succ_eq_append_getElem hlt, wantF_snoc])
        obtain ⟨b, off, rfl, hb1, hb2, hc⟩ := st_cells Rr.cells 6 (by decide) Rr.six HR6.out hlt
        generalize rows[k] = r at *
        have c0 := hc 0 _ rfl
        have c1 := hc 1 _ rfl
        simp only [Nat.add_zero] at c0 c1
        obtain ⟨p, hp⟩ : ∃ p, p = wantF (rows.take k) s := ⟨_, rfl⟩
        rw [← hp] at hT ⊢
        obtain ⟨wa, is⟩ := p
        clear hc hp
        by_cases hn : r.name = s
        · have hE := nm_t hn
          rw [if_pos hn] at hT
          clear hn
          go_wp2_with fail
          go_roundw
          case rel => exact ⟨k + 1, by omega, by rw [Int.natCast_add]; rfl, by rw [hT.out], by rw [hT.out], by first | exact Lib.hid trivial | rfl⟩
          case measure => simp [intOf]; omega
        · have hE := nm_f hn
          rw [if_neg hn] at hT
          clear hn
          go_wp2_with fail
          go_roundw
          case rel => exact ⟨k + 1, by omega, by rw [Int.natCast_add]; rfl, by rw [hT.out], by rw [hT.out], by first | exact Lib.hid trivial | rfl⟩
          case measure => simp [intOf]; omega
      · obtain rfl : k = rows.length := by omega
        rw [List.take_length, hwf.out]
        have hnm := name_at op h
        rw [nameB, Bool.and_eq_true] at hnm
        have hnm := of_decide_eq_true hnm.1
        have HO : Hid (∀ w, Calls Try.prog 25 #[.int .u8 op] w fun e w' => e = .returned (infV (infF op)) ∧ Step (fun _ => False) w w') := fun w => of_walk w op h
        have HG : Hid (∀ w : World, Calls Try.prog 31 #[.string (str (infF op).name)] w fun e w' => e = .returned (.tuple #[.int .u8 ((findF (infF op).name).1 : Int), .bool (findF (infF op).name).2]) ∧ Step (fun _ => False) w w') := fun w => find_walk w _
        rw [hnm] at HG
        obtain ⟨i, hi⟩ : ∃ i, i = infF op := ⟨_, rfl⟩
        rw [← hi] at HO HG
        have hfd := field_inf i
        have hfs := findF_lt s
        obtain ⟨⟨a, ok⟩, ha⟩ : ∃ p, p = findF s := ⟨_, rfl⟩
        rw [← ha] at HF hfs ⊢
        have hcast := IntWalk.i64_in (a : Int) (by simp at hfs; omega)
        clear ha hi hnm hwf hlt
        by_cases hnil : i.name = []
        · rw [if_pos hnil] at HG
          have he : (str i.name).toList.isEmpty = true := by rw [hnil, str_toList]; rfl
          clear hnil
          go_wp2_with fail
          refine (HF.out _).mono ?_
          rintro e w7 ⟨rfl, hS7⟩
          have HS7 := Lib.hid (HS6.out.trans hS7)
          clear hS7 HS6
          go_wp2_with fail
          refine (HO.out _).mono ?_
          rintro e w8 ⟨rfl, hS8⟩
          have HS8 := Lib.hid (HS7.out.trans hS8)
          clear hS8 HS7
          simp only [infV]
          go_wp2_with fail
          refine (HG.out _).mono ?_
          rintro e w9 ⟨rfl, hS9⟩
          have HS9 := Lib.hid (HS8.out.trans hS9)
          clear hS9 HS8
          go_wp2_with fail
          refine (HO.out _).mono ?_
          rintro e w10 ⟨rfl, hS10⟩
          have HS10 := Lib.hid (HS9.out.trans hS10)
          clear hS10 HS9
          simp only [infV]
          go_wp2_with fail
          go_ret
          exact ⟨rfl, HS10.out⟩
        · rw [if_neg hnil] at HG
          have he : (str i.name).toList.isEmpty = false := by
            rw [str_toList]
            cases hx : i.name with
            | nil => exact absurd hx hnil
            | cons => rfl
          clear hnil
          go_wp2_with fail
          refine (HF.out _).mono ?_
          rintro e w7 ⟨rfl, hS7⟩
          have HS7 := Lib.hid (HS6.out.trans hS7)
          clear hS7 HS6
          go_wp2_with fail
          refine (HO.out _).mono ?_
          rintro e w8 ⟨rfl, hS8⟩
          have HS8 := Lib.hid (HS7.out.trans hS8)
          clear hS8 HS7
          simp only [infV]
          go_wp2_with fail
          refine (HG.out _).mono ?_
          rintro e w9 ⟨rfl, hS9⟩
          have HS9 := Lib.hid (HS8.out.trans hS9)
          clear hS9 HS8
          go_wp2_with fail
          refine (HO.out _).mono ?_
          rintro e w10 ⟨rfl, hS10⟩
          have HS10 := Lib.hid (HS9.out.trans hS10)
          clear hS10 HS9
          simp only [infV]
          go_wp2_with fail
          go_ret
          exact ⟨rfl, HS10.out⟩

theorem names_done (W : World) (s : List UInt8) (op : Nat) (h : op < 256) : Calls Try.prog 4 #[.string (str s), .int .u8 op] W fun e W' => e = .returned (.bool true) ∧ Below W.heap.size W W' :=
  (names_walk W s op h).mono fun _ _ hh => ⟨hh.1, hh.2.below W.heap.size (fun _ _ hf => hf.elim) (Nat.le_refl _)⟩
end Go.Proofs.Ytfemeendkjcffaa
