/-
  Bytes: slices of bytes that are owned or read, strings, and what goes between them.
-/
import Derived.Test.YtmheofkakcomdaaRows
import Derived.Test.YtmheofkakcomdaaMem
import Derived.Lib.AppendStr
import Derived.Laws.BytesArg
set_option linter.unusedVariables false
set_option linter.unusedSimpArgs false
namespace Go.Proofs.Ytmheofkakcomdaa
open Go.RowKit

/-- A string of bytes. -/
def str (l : List UInt8) : ByteArray := ⟨l.toArray⟩
theorem str_size (l : List UInt8) : (str l).size = l.length := by simp [str, ByteArray.size]
theorem str_toList (l : List UInt8) : (str l).toList = l := by rw [ByteArray.toList_eq]; rfl
theorem str_data (s : ByteArray) : str s.data.toList = s := by cases s; rfl
theorem str_append (l m : List UInt8) : str l ++ str m = str (l ++ m) := ByteArray.mk_append_mk l m
theorem str_extract (l : List UInt8) (a b : Nat) : (str l).extract a b = str ((l.drop a).take (b - a)) := ByteArray.extract_mk l a b
theorem str_inj {l m : List UInt8} (h : str l = str m) : l = m := by rw [← str_toList l, h, str_toList]

/-- Bytes as cells. -/
def u8s (l : List UInt8) : List Value := l.map fun b => .int .u8 (b.toNat : Int)
theorem u8s_length (l : List UInt8) : (u8s l).length = l.length := by simp [u8s]
theorem u8s_append (l m : List UInt8) : u8s (l ++ m) = u8s l ++ u8s m := by simp [u8s]
theorem u8s_one (l : List UInt8) : ∀ u ∈ u8s l, u.oneCell' = true := by
  intro u hu
  obtain ⟨x, _, rfl⟩ := List.mem_map.1 hu
  rfl
theorem u8s_take (l : List UInt8) (k : Nat) : u8s (l.take k) = (u8s l).take k := by simp [u8s]
theorem u8s_drop (l : List UInt8) (k : Nat) : u8s (l.drop k) = (u8s l).drop k := by simp [u8s]
theorem u8s_get (l : List UInt8) (k : Nat) (h : k < l.length) : (u8s l)[k]? = some (.int .u8 (l[k].toNat : Int)) := by simp [u8s, h]
theorem u8s_str (l : List UInt8) : Lib.strCells (str l) = u8s l := rfl


section
variable {P : Program} (w : World)
theorem wp_append_str {o : Oper} {a : Act} {K : Act → World → Prop} {Q : Exit → Act → World → Prop} (s x : Operand) (t u : TypeId)
    (ho : o.op = .call { callee := .builtin .append, args := #[s, x], argTypes := #[t, u] }) (hu : P.underlying u = some .string)
    {base : Nat} {e : TypeId} (ht : P.underlying t = some (.slice e)) (hi : (P.info? e).map (fun i => (i.zero, i.size, i.bytes)) = some (some (.int .u8 0), 1, 1))
    {D : Option Addr} {n cc : Nat} {xs : List Value} (hs : a.eval s = .slice D n cc) (hown : w.ownsRow base e 1 (.slice D n cc) n xs)
    {l : List UInt8} {m : Nat} (hx : a.eval x = .string (str l)) (hm : m = n + l.length)
    (h63 : m ≤ maxLen) (hbytes : m ≤ 140737488355328) (hbase : base ≤ w.heap.size)
    (h : ∀ D' c' w', w'.ownsRow base e 1 (.slice D' m c') m (xs ++ u8s l) → w.grownBy w' (blkOf D) → (∀ k, blkOf D' = some k → blkOf D = some k ∨ w.heap.size ≤ k) → K (a.put o.dst (.slice D' m c')) w') : o.wp P a w K Q := by
  obtain ⟨_, _, i, z, hi1, hz, hsize, hby, hzs⟩ := elem_of ht hi rfl (by decide)
  rw [hi1] at hi
  simp only [Option.map_some, Option.some.injEq, Prod.mk.injEq] at hi
  have hz0 := hi.1
  have hsz := str_size l
  obtain ⟨v', w', hrun, h2, h3, _⟩ := Lib.run_append_own_string (P := P) w base t u o.type e i ht hu hi1 hz0 hsize hby _ n xs hown (str l) (by rw [hsz, ← hm]; exact h63) (by rw [hsz, ← hm]; exact hbytes) hbase
  rw [hsz, ← hm, u8s_str] at h2
  obtain ⟨D', c', rfl, hob⟩ := own_form h2
  have hD : ∀ k, blkOf D' = some k → blkOf D = some k ∨ w.heap.size ≤ k := fun k hk => by
    rcases Nat.lt_or_ge k w.heap.size with hlt | hge
    · left
      rcases hown.2 with ⟨hv, rfl⟩ | ⟨g, cap, cur, hv, hbg, hg, hnc, hcm, hcs, htake⟩
      · injection hv with e1 e2 e3
        subst e1; subst e3
        by_cases hl : l = []
        · subst hl
          have hf := Lib.run_firstCells_string (P := P) w 1 (str [])
          have hr : (Builtin.append_ #[t, u] o.type #[.slice none 0 0, .string (str [])]).run P w = .ok (.slice none 0 0) w := by
            have hm0 : (str []).size = 0 := rfl
            rw [hm0] at hf
            simp [Builtin.append_, run_underlying ht, run_underlying hu, sizeOf, typeInfo, hi1, hsize, Builtin.lenOf, hm0, hf]
          rw [hr] at hrun
          injection hrun with e1 _
          injection e1 with e2 _ _
          rw [← e2] at hk
          simp [blkOf] at hk
        · have hpos : 0 < l.length := by cases l with | nil => exact absurd rfl hl | cons => simp
          have hr := run_append_nil_string (P := P) w t u o.type e i (.int .u8 0) ht hu hi1 hz0 (str l) (by omega) (by unfold maxLen at h63; omega) (by rw [hby]; omega)
          rw [hr] at hrun
          injection hrun with e1 _
          injection e1 with e2 _ _
          rw [← e2] at hk
          simp [blkOf] at hk
          omega
      · injection hv with e1 e2 e3
        subst e1; subst e3
        by_cases hroom : n + (str l).size ≤ cc
        · have hr := Lib.run_append_room_string (P := P) w t u o.type e i ht hu hi1 hsize g n cc cur hg (str l) hroom (by rw [hcs] at *; omega)
          rw [hr] at hrun
          injection hrun with e1 _
          injection e1 with e2 _ _
          rw [← e2] at hk
          exact hk
        · have holds : ∀ j u, xs[j]? = some u → w.cell? ((⟨g, 0, none⟩ : Addr).add j) = some u := hown.cells (g := g) rfl
          have hr := Lib.run_append_grow_string (P := P) w t u o.type e i (.int .u8 0) ht hu hi1 hz0 ⟨g, 0, none⟩ n cc xs (by rw [hsize]; simpa using hown.1) holds (str l) (by omega) (by unfold maxLen at h63; rw [hsz]; omega) (by rw [hby]; exact growslice_fits (by omega) (by rw [hsz]; omega))
          rw [hr] at hrun
          injection hrun with e1 _
          injection e1 with e2 _ _
          rw [← e2] at hk
          simp [blkOf] at hk
          omega
    · exact .inr hge
  rw [ownBlock_slice] at h3
  unfold Oper.wp execOp
  simp only [ho, resolve, invoke, builtin, Sem.run_bind, Sem.run_pure, Result.andThen_ok, List.map_toArray, List.map_cons, List.map_nil, hs, hx, hrun]
  exact h D' c' w' h2 h3 hD

theorem wpList_append_str {ops : Array Oper} {rest : List Oper} {o : Oper} {a : Act} {Q : Exit → Act → World → Prop} (hgd : o.guard = none) (s x : Operand) {t u : TypeId}
    (ho : o.op = .call { callee := .builtin .append, args := #[s, x], argTypes := #[t, u] }) (hu : P.underlying u = some .string)
    {base : Nat} {e : TypeId} (ht : P.underlying t = some (.slice e)) (hi : (P.info? e).map (fun i => (i.zero, i.size, i.bytes)) = some (some (.int .u8 0), 1, 1))
    {D : Option Addr} {n cc : Nat} {xs : List Value} (hs : a.eval s = .slice D n cc) (hown : w.ownsRow base e 1 (.slice D n cc) n xs)
    {l : List UInt8} {m : Nat} (hx : a.eval x = .string (str l)) (hm : m = n + l.length)
    (h63 : m ≤ maxLen) (hbytes : m ≤ 140737488355328) (hbase : base ≤ w.heap.size)
    (h : ∀ D' c' w', w'.ownsRow base e 1 (.slice D' m c') m (xs ++ u8s l) → w.grownBy w' (blkOf D) → (∀ k, blkOf D' = some k → blkOf D = some k ∨ w.heap.size ≤ k) → wpList P ops Q rest (a.put o.dst (.slice D' m c')) w') : wpList P ops Q (o :: rest) a w :=
  wpList_plain hgd fun _ hK => wp_append_str w s x t u ho hu ht hi hs hown hx hm h63 hbytes hbase fun D' c' w' h2 h3 h4 => hK _ _ (h D' c' w' h2 h3 h4)

/-- 'string(b)' of a slice that reads as l. -/
theorem run_conv_bytes (src dst e : TypeId) (hs : P.underlying src = some (.slice e)) (he : P.underlying e = some (.int .u8)) (hd : P.underlying dst = some .string)
    {S : Nat → Prop} {A : Option Addr} {n c : Nat} {l : List UInt8} (h : Reads w S 1 A n (u8s l)) : (convert src dst (.slice A n c)).run P w = .ok (.string (str l)) w := by
  have hn : n = l.length := by have := h.1; rw [u8s_length] at this; omega
  subst hn
  cases A with
  | none =>
    have h0 : l = [] := by
      cases l with
      | nil => rfl
      | cons x l =>
        obtain ⟨ad, e1, _⟩ := h.2 (by simp)
        cases e1
    subst h0
    rw [run_convert_bytes_nil w src e hs he _ _ dst hd]
    rfl
  | some ad =>
    have hl : (loadCells ad l.length).run P w = .ok ((l.map fun b => (b.toNat : Int)).map (Value.int .u8)).toArray w := by
      have := run_loadCells_list (P := P) w ad (u8s l) (fun j v hj => by
        rcases Nat.eq_zero_or_pos l.length with h0 | h0
        · have : l = [] := List.eq_nil_of_length_eq_zero h0
          subst this
          simp [u8s] at hj
        · obtain ⟨ad', e1, _, _, hc⟩ := h.2 h0
          injection e1 with e1
          subst e1
          exact hc j v hj)
      rw [u8s_length] at this
      simpa [u8s, Function.comp_def] using this
    rw [run_convert_bytes_string w src dst e _ _ c hs he hd, run_bytesToString w ad _ c _ hl, foldl_push_bytes]
    congr 2
    simp [str, ByteArray.empty, ByteArray.emptyWithCapacity, Function.comp_def]
    rfl

/-- 's[i]'. -/
theorem index_str {t : TypeId} (ht : P.underlying t = some .string) (l : List UInt8) (j : Nat) (hj : j < l.length) : ∀ w : World, (Instr.index t (.string (str l)) (.int .i64 (j : Int))).run P w = .ok (.int .u8 (l[j].toNat : Int)) w := by
  intro w
  have hs : j < (str l).size := by rw [str_size]; exact hj
  rw [run_index_string w t (str l) .i64 (j : Int) ht]
  have hg : (str l)[j] = l[j] := rfl
  simp [str_size, hj, hg]
  rfl

theorem index_strn {t : TypeId} (ht : P.underlying t = some .string) (l : List UInt8) (i : Int) (j : Nat) (hi : i = j) (hj : j < l.length) : ∀ w : World, (Instr.index t (.string (str l)) (.int .i64 i)).run P w = .ok (.int .u8 (l[j].toNat : Int)) w := by
  subst hi
  exact index_str ht l j hj
theorem str_slice_h {t : TypeId} (ht : P.underlying t = some .string) (l : List UInt8) (k : IntKind) (i : Int) (h : Nat) (hi : i = h) (hh : h ≤ l.length) :
    ∀ w : World, (Instr.slice t (.string (str l)) none (some (.int k i)) none).run P w = .ok (.string (str (l.take h))) w := by
  intro w
  subst hi
  have hs := str_size l
  have he := str_extract l 0 h
  simp at he
  simp [Instr.slice, run_underlying ht, Instr.sliceBounds, run_sliceBound, hs, hh, he]
theorem str_slice_l {t : TypeId} (ht : P.underlying t = some .string) (l : List UInt8) (k : IntKind) (i : Int) (h : Nat) (hi : i = h) (hh : h ≤ l.length) :
    ∀ w : World, (Instr.slice t (.string (str l)) (some (.int k i)) none none).run P w = .ok (.string (str (l.drop h))) w := by
  intro w
  subst hi
  have hs := str_size l
  have he := str_extract l h l.length
  rw [show l.length - h = (l.drop h).length by simp, List.take_length] at he
  simp [Instr.slice, run_underlying ht, Instr.sliceBounds, run_sliceBound, hs, hh, he]
theorem str_slice_lh {t : TypeId} (ht : P.underlying t = some .string) (l : List UInt8) (k k' : IntKind) (i j : Int) (a b : Nat) (hi : i = a) (hj : j = b) (hab : a ≤ b) (hh : b ≤ l.length) :
    ∀ w : World, (Instr.slice t (.string (str l)) (some (.int k i)) (some (.int k' j)) none).run P w = .ok (.string (str ((l.drop a).take (b - a)))) w := by
  intro w
  subst hi hj
  have hs := str_size l
  have he := str_extract l a b
  simp [Instr.slice, run_underlying ht, Instr.sliceBounds, run_sliceBound, hs, hh, hab, he]
end
end Go.Proofs.Ytmheofkakcomdaa
