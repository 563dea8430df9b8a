/-
  store: the parts, as the law StoreParts uses them: each call told in one way.
-/
import Derived.Test.YtidedlcppkokbaaSz
set_option linter.unusedVariables false
set_option linter.unusedSimpArgs false
namespace Go.Proofs.Ytidedlcppkokbaa
open Go.RowKit

def upto (k : Nat) : List UInt8 := (List.range k).map fun i => UInt8.ofNat (i + 1)
theorem upto_len (k : Nat) : (upto k).length = k := by simp [upto]
theorem upto_succ (k : Nat) (h : k < 64) : u8s (upto (k + 1)) = u8s (upto k) ++ #[Value.int .u8 ((k : Int) + 1)].toList := by
  rw [upto, List.range_succ, List.map_append, u8s_append]
  congr 1
  simp only [u8s, List.map_cons, List.map_nil]
  rw [show ((UInt8.ofNat (k + 1)).toNat : Int) = (k : Int) + 1 by
    rw [UInt8.toNat_ofNat']
    omega]
theorem mid_all (Z d : List UInt8) (a k : Nat) (hk : k = d.length) (ha : a + k ≤ Z.length) : ((Z.take a ++ d ++ Z.drop (a + k)).drop a).take k = d := by
  have h1 : (Z.take a).length = a := by rw [List.length_take]; omega
  rw [List.append_assoc, List.drop_left' h1, hk, List.take_left]
theorem data_apart {w : World} {B B' n c : Nat} {s : St} {D : Option Addr} {l : List UInt8} (h : Stw w B s) (ho : w.ownsRow B' 5 1 (.slice D n c) n (u8s l)) : ∀ q, (Value.slice D n c).ownBlock = some q → q < w.heap.size ∧ ¬ jfoot s.J s.Al s.Am q := fun q hq => by
  obtain ⟨z, hz⟩ := h.jn.blk
  refine ⟨own_lt ho q hq, ?_⟩
  rintro (rfl | e | e)
  · exact own_tag ho hz (by decide) hq
  · have := own_tag2 ho h.jn.ol (by decide) q hq
    rw [ownBlock_slice] at this
    exact this e
  · have := own_tag2 ho h.jn.om (by decide) q hq
    rw [ownBlock_slice] at this
    exact this e
theorem parts_num {n0 j pn : Nat} (h0 : n0 < 65536) (hj : j < 64) (hp : pn ≤ 256) : wrap64 (n0 : Int) = (n0 : Int) ∧ IntKind.u64.wrap (n0 : Int) = (n0 : Int) ∧ IntKind.i64.wrap ((n0 : Int) + (j : Int)) = (n0 : Int) + (j : Int) ∧ IntKind.i64.wrap ((pn : Int) * 65536) = (pn : Int) * 65536 :=
  ⟨by unfold wrap64; omega, by rw [Go.IntKind.wrap_u64]; omega, IntWalk.i64_in _ (by omega), IntWalk.i64_in _ (by omega)⟩
theorem parts_in {n0 j pn : Nat} (h : n0 + j ≤ pn * 65536) : decide ((n0 : Int) + (j : Int) ≤ (pn : Int) * 65536) = true := decide_eq_true (by omega)
theorem parts_out {n0 j pn : Nat} (h : ¬ n0 + j ≤ pn * 65536) : decide ((n0 : Int) + (j : Int) ≤ (pn : Int) * 65536) = false := decide_eq_false (by omega)
/-- The store on the law's way: all that the rest needs. -/
structure Pt (w0 w : World) (B S q m g3 : Nat) (t0 t1 : Int) (s : St) : Prop where
  st : Stw w B s
  S : s.S = S
  nt : s.nt = q
  n : s.n = m
  nm : s.nm = 0
  nl : s.nl = 0
  nb : blkOf s.At ≠ some g3
  blk : Blk w g3 26 #[.int .i64 t0, .int .i64 t1]
  low : Step (fun k => w0.heap.size ≤ k) w0 w
  le : w0.heap.size ≤ B
  sz : B ≤ w.heap.size
section
variable {w0 w w' : World} {B S q m g3 : Nat} {t0 t1 : Int} {s : St}
theorem Pt.quiet (h : Pt w0 w B S q m g3 t0 t1 s) (hs : Step (fun _ => False) w w') : Pt w0 w' B S q m g3 t0 t1 s :=
  ⟨h.st.quiet hs, h.S, h.nt, h.n, h.nm, h.nl, h.nb, h.blk.step hs id, h.low.trans (hs.mono fun _ _ e => e.elim), h.le, Nat.le_trans h.sz hs.size⟩
theorem Pt.c0 (h : Pt w0 w B S q m g3 t0 t1 s) : w.cell? ⟨S, 0, none⟩ = some (.pointer (some ⟨s.M, 0, none⟩)) := by
  have m0 := h.st.blk.cell 0
  rw [h.S] at m0
  simpa using m0
theorem Pt.c1 (h : Pt w0 w B S q m g3 t0 t1 s) : w.cell? ⟨S, 1, none⟩ = some (.pointer (some ⟨s.T, 0, none⟩)) := by
  have m0 := h.st.blk.cell 1
  rw [h.S] at m0
  simpa using m0
theorem Pt.y0 (h : Pt w0 w B S q m g3 t0 t1 s) : w.cell? ⟨g3, 0, none⟩ = some (.int .i64 t0) := by simpa using h.blk.cell 0
theorem Pt.y1 (h : Pt w0 w B S q m g3 t0 t1 s) : w.cell? ⟨g3, 1, none⟩ = some (.int .i64 t1) := by simpa using h.blk.cell 1
end
theorem pwrite (w0 w : World) (B S q m g3 : Nat) (t0 t1 : Int) (s : St) (n0 j c : Nat) (D : Option Addr) (S' : Nat → Prop) (h : Pt w0 w B S q m g3 t0 t1 s) (hlt : s.lt = List.replicate q (-1)) (hr : Reads w S' 1 D j (u8s (upto j))) (hS' : ∀ q, S' q → q < B ∧ ¬ jfoot s.J s.Al s.Am q) (h0 : n0 < 65536) (hj : j < 64) :
    Calls Try.prog 6 #[.pointer (some ⟨S, 0, none⟩), .int .u64 (n0 : Int), .slice D j c] w fun e w' => ∃ (f : Int) (s' : St), e = .returned (.int .i64 f) ∧ Pt w0 w' B S q m g3 t0 t1 s' ∧ s'.lt = List.replicate q (-1) ∧ Reads w' S' 1 D j (u8s (upto j)) ∧
      (n0 + j ≤ m ∧ f = 0 ∧ (s'.l.drop n0).take j = upto j ∨ ¬ n0 + j ≤ m ∧ f = 63) := by
  obtain rfl := h.S
  obtain rfl := h.n
  by_cases hin : n0 + j ≤ s.n
  · refine (swrite_ok w B s n0 j c D S' (upto j) h.st hr (fun q hq => ⟨Nat.lt_of_lt_of_le (hS' q hq).1 h.sz, (hS' q hq).2⟩) (upto_len j).symm hin h.sz (by rw [h.nl]; decide)).mono ?_
    rintro e w' ⟨rfl, Al', nl', cl', es', hcl, -, hst, hu⟩
    obtain ⟨e1, e2, e3, e4⟩ := hcl h.nm
    have hlow : ∀ k, (blkOf s.A = some k ∨ jfoot s.J s.Al s.Am k) → B ≤ k := fun k hk => by
      rcases hk with hk | hk
      · exact own_ge h.st.mm.own k (by rwa [ownBlock_slice])
      · exact h.st.jn.gef k hk
    have hg3 : ¬ (blkOf s.A = some g3 ∨ jfoot s.J s.Al s.Am g3) := fun hk => by
      rcases hk with hk | hk
      · have := own_tag h.st.mm.own h.blk (by decide)
        rw [ownBlock_slice] at this
        exact this hk
      · obtain ⟨z, hz⟩ := h.st.jn.blk
        rcases hk with hk | hk | hk
        · exact absurd (h.blk.tag (by rw [hk]; exact hz)) (by decide)
        · have := own_tag h.st.jn.ol h.blk (by decide)
          rw [ownBlock_slice] at this
          exact this hk
        · have := own_tag h.st.jn.om h.blk (by decide)
          rw [ownBlock_slice] at this
          exact this hk
    refine ⟨0, _, rfl, ⟨hst, rfl, h.nt, rfl, h.nm, by show nl' = 0; rw [e2]; exact h.nl, h.nb, h.blk.step hu.1 hg3, h.low.trans (hu.1.mono fun k _ hk => Nat.le_trans h.le (hlow k hk)), h.le, Nat.le_trans h.sz hu.1.size⟩, hlt, (hr.mono (S' := S') (fun q _ hq => hq)).step hu.1 (fun q hq e => ?_), .inl ⟨hin, rfl, ?_⟩⟩
    · rcases e with e | e
      · have h8 := own_ge h.st.mm.own q (by rwa [ownBlock_slice])
        have h9 := (hS' q hq).1
        omega
      · exact (hS' q hq).2 e
    · exact mid_all s.l (upto j) n0 j (upto_len j).symm (by rw [← h.st.mm.len]; exact hin)
  · refine (swrite_err w B s n0 j c D h.st (by omega) (by omega) (by omega)).mono ?_
    rintro e w' ⟨rfl, rfl⟩
    exact ⟨63, s, rfl, h, hlt, hr, .inr ⟨hin, rfl⟩⟩
theorem pread (w0 w : World) (B S q m g3 : Nat) (t0 t1 : Int) (s : St) (n0 j : Nat) (f : Int) (h : Pt w0 w B S q m g3 t0 t1 s) (h0 : n0 < 65536) (hj : j < 64) (hf : n0 + j ≤ m ∧ f = 0 ∧ (s.l.drop n0).take j = upto j ∨ ¬ n0 + j ≤ m ∧ f = 63) :
    Calls Try.prog 7 #[.pointer (some ⟨s.M, 0, none⟩), .int .u64 (n0 : Int), .int .i64 (j : Int)] w fun e w' => ∃ (f' : Int) (A' : Option Addr) (n' c' : Nat), e = .returned (.tuple #[.slice A' n' c', .int .i64 f']) ∧ Step (fun _ => False) w w' ∧
      (n0 + j ≤ m ∧ f = 0 ∧ f' = 0 ∧ j = n' ∧ (∃ S', Reads w' S' 1 A' j (u8s (upto j))) ∨ ¬ n0 + j ≤ m ∧ f = 63) := by
  obtain rfl := h.n
  rcases hf with ⟨hin, rfl, hl⟩ | ⟨hin, rfl⟩
  · refine (mread_ok w B s.M s.A s.n s.c s.most s.l n0 j h.st.mm hin).mono ?_
    rintro e w' ⟨A', c', rfl, hown, hs⟩
    rw [hl] at hown
    exact ⟨0, A', j, c', rfl, hs, .inl ⟨hin, rfl, rfl, rfl, _, Reads.of_own hown⟩⟩
  · refine (mread_err w B s.M s.A s.n s.c s.most s.l n0 (j : Int) h.st.mm (by omega) (by omega) (.inr (by omega))).mono ?_
    rintro e w' ⟨rfl, rfl⟩
    exact ⟨63, none, 0, 0, rfl, Step.refl, .inr ⟨hin, rfl⟩⟩
theorem pset (w0 w : World) (B S q m g3 : Nat) (t0 t1 : Int) (s : St) (h : Pt w0 w B S q m g3 t0 t1 s) (hlt : s.lt = List.replicate q (-1)) :
    Calls Try.prog 8 #[.pointer (some ⟨S, 0, none⟩), .int .i64 t0, .int .i64 t1] w fun e w' => ∃ (f : Int) (s' : St), e = .returned (.int .i64 f) ∧ Pt w0 w' B S q m g3 t0 t1 s' ∧
      ((t0 < 0 ∨ (q : Int) ≤ t0) ∧ f = 64 ∨ ∃ i : Nat, t0 = i ∧ i < q ∧ (t1 < -1 ∧ f = 1 ∧ s'.lt[i]? = some (-1) ∨ -1 ≤ t1 ∧ f = 0 ∧ s'.lt[i]? = some t1)) := by
  obtain rfl := h.S
  obtain rfl := h.nt
  by_cases hi : t0 < 0 ∨ (s.nt : Int) ≤ t0
  · refine (sset_trap w B s t0 t1 h.st hi).mono ?_
    rintro e w' ⟨rfl, rfl⟩
    exact ⟨64, s, rfl, h, .inl ⟨hi, rfl⟩⟩
  · obtain ⟨i, rfl⟩ : ∃ i : Nat, t0 = i := ⟨t0.toNat, by omega⟩
    have hiq : i < s.nt := by omega
    have hy : s.lt[i]? = some (-1) := by rw [hlt]; simp [hiq]
    by_cases hx : t1 < -1
    · refine (sset_arg w B s i t1 (-1) h.st hiq hy hx).mono ?_
      rintro e w' ⟨rfl, rfl⟩
      exact ⟨1, s, rfl, h, .inr ⟨i, rfl, hiq, .inl ⟨hx, rfl, hy⟩⟩⟩
    · refine (sset_closed w B s i t1 (-1) h.st hiq hy (by omega) h.nm).mono ?_
      rintro e w' ⟨rfl, hst, hs⟩
      refine ⟨0, _, rfl, ⟨hst, rfl, rfl, h.n, h.nm, h.nl, h.nb, h.blk.step hs (fun e => h.nb e), h.low.trans (hs.mono fun k _ hk => Nat.le_trans h.le (own_ge h.st.tb.own k (by rwa [ownBlock_slice]))), h.le, Nat.le_trans h.sz hs.size⟩, .inr ⟨i, rfl, hiq, .inr ⟨by omega, rfl, ?_⟩⟩⟩
      show (s.lt.set i t1)[i]? = _
      rw [List.getElem?_set_self (by rw [← h.st.tb.len]; exact hiq)]
theorem pslot (w0 w : World) (B S q m g3 : Nat) (t0 t1 : Int) (s : St) (f : Int) (h : Pt w0 w B S q m g3 t0 t1 s)
    (hf : (t0 < 0 ∨ (q : Int) ≤ t0) ∧ f = 64 ∨ ∃ i : Nat, t0 = i ∧ i < q ∧ (t1 < -1 ∧ f = 1 ∧ s.lt[i]? = some (-1) ∨ -1 ≤ t1 ∧ f = 0 ∧ s.lt[i]? = some t1)) :
    Calls Try.prog 9 #[.pointer (some ⟨s.T, 0, none⟩), .int .i64 t0] w fun e w' => ∃ (x : Int) (ok : Bool), e = .returned (.tuple #[.int .i64 x, .bool ok]) ∧ w' = w ∧ (ok = false ∧ f = 64 ∨ ok = true ∧ t1 < -1 ∧ f = 1 ∧ x = -1 ∨ ok = true ∧ -1 ≤ t1 ∧ f = 0 ∧ t1 = x) := by
  obtain rfl := h.nt
  rcases hf with ⟨hi, rfl⟩ | ⟨i, rfl, hi, hx⟩
  · refine (tslot_err w B s.T s.At s.nt s.ct s.mt s.lt t0 h.st.tb hi).mono ?_
    rintro e w' ⟨rfl, rfl⟩
    exact ⟨-1, false, rfl, rfl, .inl ⟨rfl, rfl⟩⟩
  · rcases hx with ⟨hx, rfl, hy⟩ | ⟨hx, rfl, hy⟩
    · refine (tslot_ok w B s.T s.At s.nt s.ct s.mt s.lt i (-1) h.st.tb hi hy).mono ?_
      rintro e w' ⟨rfl, rfl⟩
      exact ⟨-1, true, rfl, rfl, .inr (.inl ⟨rfl, hx, rfl, rfl⟩)⟩
    · refine (tslot_ok w B s.T s.At s.nt s.ct s.mt s.lt i t1 h.st.tb hi hy).mono ?_
      rintro e w' ⟨rfl, rfl⟩
      exact ⟨t1, true, rfl, rfl, .inr (.inr ⟨rfl, hx, rfl, rfl⟩)⟩
theorem pt_new {w wc W5 : World} {S M T Fu J K : Nat} {A At D : Option Addr} {c5 ct pn q j c B' g3 : Nat} {m r t0 t1 : Int} (hst : Stw W5 wc.heap.size ⟨S, M, T, Fu, J, A, pn * 65536, c5, m, List.replicate (pn * 65536) 0, At, q, ct, r, List.replicate q (-1), none, 0, 0, [], none, 0, 0, [], .slice none 0 0, .map (some K)⟩) (hs : Step (fun _ => False) wc W5) (hw : Step (fun k => w.heap.size ≤ k) w wc) (hb : Blk W5 g3 26 #[.int .i64 t0, .int .i64 t1]) (ho : wc.ownsRow B' 5 1 (.slice D j c) j (u8s (upto j))) :
    ∃ s : St, Pt w W5 wc.heap.size S q (pn * 65536) g3 t0 t1 s ∧ s.lt = List.replicate q (-1) ∧ ∀ q, (Value.slice D j c).ownBlock = some q → q < wc.heap.size ∧ ¬ jfoot s.J s.Al s.Am q := by
  have hd := data_apart hst (own_below ho hs)
  refine ⟨_, ⟨hst, rfl, rfl, rfl, rfl, rfl, ?_, hb, hw.trans (hs.mono fun _ _ e => e.elim), hw.size, hs.size⟩, rfl, fun q hq => ⟨own_lt ho q hq, (hd q hq).2⟩⟩
  have := own_tag hst.tb.own hb (by decide)
  rwa [ownBlock_slice] at this
end Go.Proofs.Ytidedlcppkokbaa
