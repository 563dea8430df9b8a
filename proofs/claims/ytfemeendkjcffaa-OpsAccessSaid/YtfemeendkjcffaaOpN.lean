/-
  ops: the reference's Access; the law OpsAccess.
-/
import Derived.Test.YtfemeendkjcffaaOpJ
import Derived.Test.YtfemeendkjcffaaOpK
import Derived.Test.YtfemeendkjcffaaOpM
set_option linter.unusedVariables false
set_option linter.unusedSimpArgs false
namespace Go.Proofs.Ytfemeendkjcffaa
open Go.RowKit

/-- What a name's letters tell of how many bytes. -/
def bytGo (nm : List UInt8) : Nat → Nat → Nat → Nat
  | 0, _, n => n
  | f + 1, i, n => bytGo nm f (i + 1) (if i < 3 then n else if nm[i]? = some 56 then 1 else if (nm.drop i).take 2 = [49, 54] then 2 else if (nm.drop i).take 2 = [51, 50] then 4 else n)
def lngR (nm : List UInt8) : Bool := decide (nm.take 3 = [105, 54, 52])
def bytR (nm : List UInt8) : Nat := if nm[nm.length - 1]? = some 56 then 1 else bytGo nm (nm.length - 1) 0 (if lngR nm then 8 else 4)
/-- The reference's answer: bytes, long, writes, signed, whether. -/
def racF (op : Nat) : Nat × Bool × Bool × Bool × Bool :=
  if (ofR op).2 = true ∧ (ofR op).1.imm = 8 then (bytR (ofR op).1.name, lngR (ofR op).1.name, decide ((ofR op).1.takes.length = 2), decide ((ofR op).1.name.drop ((ofR op).1.name.length - 2) = [95, 115]), true)
  else (0, false, false, false, false)

set_option maxRecDepth 100000 in
set_option maxHeartbeats 1600000 in
theorem racc_no (w : World) (op : Nat) (h : op < 256) (hno : ¬ ((ofR op).2 = true ∧ (ofR op).1.imm = 8)) :
    Calls Try.prog 33 #[.int .i64 (op : Int)] w fun e w' => e = .returned (.tuple #[.int .i64 0, .bool false, .bool false, .bool false, .bool false]) ∧ Step (fun _ => False) w w' := by
  have HF : Hid (∀ w, Calls Try.prog 24 #[.int .i64 (op : Int)] w fun e w' => e = .returned (.tuple #[rrV (ofR op).1, .bool (ofR op).2]) ∧ Step (fun _ => False) w w') := fun w => ofref_walk w op (by omega)
  obtain ⟨⟨r, ok⟩, hp⟩ : ∃ p, p = ofR op := ⟨_, rfl⟩
  rw [← hp] at HF hno
  clear hp
  cases ok
  · clear hno
    go_enter Try.func33, Try.ntmps33
    go_wp2_with fail
    refine (HF.out _).mono ?_
    rintro e w6 ⟨rfl, hS6⟩
    simp only [rrV]
    go_wp2_with fail
    refine bodyPost_ret (v := .tuple #[.int .i64 0, .bool false, .bool false, .bool false, .bool false]) (by simp [results, Try.results33, go_sem]) rfl ⟨rfl, hS6.alloc _⟩
  · have hne : ¬ (r.imm : Int) = 8 := fun hx => hno ⟨rfl, by show r.imm = 8; omega⟩
    clear hno
    go_enter Try.func33, Try.ntmps33
    go_wp2_with fail
    refine (HF.out _).mono ?_
    rintro e w6 ⟨rfl, hS6⟩
    simp only [rrV]
    go_wp2_with fail
    refine bodyPost_ret (v := .tuple #[.int .i64 0, .bool false, .bool false, .bool false, .bool false]) (by simp [results, Try.results33, go_sem]) rfl ⟨rfl, hS6.alloc _⟩

set_option maxRecDepth 100000 in
set_option maxHeartbeats 1600000 in
theorem racc_yes (w : World) (op : Nat) (h : op < 256) (hok : (ofR op).2 = true) (h8 : (ofR op).1.imm = 8) (hl : 3 ≤ (ofR op).1.name.length) (hl2 : (ofR op).1.name.length ≤ 1000) :
    Calls Try.prog 33 #[.int .i64 (op : Int)] w fun e w' => e = .returned (.tuple #[.int .i64 (bytR (ofR op).1.name : Nat), .bool (lngR (ofR op).1.name), .bool (decide ((ofR op).1.takes.length = 2)), .bool (decide ((ofR op).1.name.drop ((ofR op).1.name.length - 2) = [95, 115])), .bool true]) ∧ Step (fun _ => False) w w' := by
  have HF : Hid (∀ w, Calls Try.prog 24 #[.int .i64 (op : Int)] w fun e w' => e = .returned (.tuple #[rrV (ofR op).1, .bool (ofR op).2]) ∧ Step (fun _ => False) w w') := fun w => ofref_walk w op (by omega)
  obtain ⟨⟨r, ok⟩, hp⟩ : ∃ p, p = ofR op := ⟨_, rfl⟩
  rw [← hp] at HF hok h8 hl hl2 ⊢
  clear hp
  obtain ⟨rop, nm, imm, takes, has, free⟩ := r
  dsimp only at hok h8 hl hl2 ⊢
  subst hok
  subst h8
  obtain ⟨bt, hbt⟩ : ∃ bt, bt = bytR nm := ⟨_, rfl⟩
  obtain ⟨lg, hlg⟩ : ∃ lg, lg = lngR nm := ⟨_, rfl⟩
  obtain ⟨sg, hsg⟩ : ∃ sg, sg = decide (nm.drop (nm.length - 2) = [95, 115]) := ⟨_, rfl⟩
  obtain ⟨wr, hwr⟩ : ∃ wr, wr = decide (takes.length = 2) := ⟨_, rfl⟩
  rw [← hbt, ← hlg, ← hsg, ← hwr]
  have hsz := str_size nm
  have hst := str_size takes
  have hs3 := str_slice_h Try.underlying9 nm .i64 3 3 rfl (by omega) (P := Try.prog)
  have hlong : ((str (nm.take 3)).toList == [105, 54, 52]) = lg := by
    rw [str_toList, hlg, lngR, Bool.eq_iff_iff]
    simp
  have hl1 : (nm.length : Int) ≥ 3 := by omega
  have hwI := IntWalk.i64_in ((nm.length : Int) - 1) (by omega)
  have hwJ := IntWalk.i64_in ((nm.length : Int) - 2) (by omega)
  have hil := index_strn Try.underlying9 nm ((nm.length : Int) - 1) (nm.length - 1) (by omega) (by omega) (P := Try.prog)
  have hsl := str_slice_l Try.underlying9 nm .i64 ((nm.length : Int) - 2) (nm.length - 2) (by omega) (by omega) (P := Try.prog)
  have hsgn : ((str (nm.drop (nm.length - 2))).toList == [95, 115]) = sg := by
    rw [str_toList, hsg, Bool.eq_iff_iff]
    simp
  have hwrt : (((takes.length : Nat) : Int) == 2) = wr := by
    rw [hwr, Bool.eq_iff_iff]
    simp
    omega
  obtain ⟨c, hcc⟩ : ∃ c : Nat, c = (nm[nm.length - 1]'(by omega)).toNat := ⟨_, rfl⟩
  rw [← hcc] at hil
  have hc56 : (nm[nm.length - 1]? = some 56) = (c = 56) := by
    rw [List.getElem?_eq_getElem (by omega : nm.length - 1 < nm.length)]
    exact propext ⟨fun h => by rw [hcc, Option.some.inj h]; rfl, fun h => by rw [UInt8.toNat_inj.1 (show (nm[nm.length - 1]'(by omega)).toNat = (56 : UInt8).toNat from by rw [← hcc, h]; rfl)]⟩
  rw [bytR, ← hlg] at hbt
  simp only [hc56] at hbt
  obtain ⟨x2, hx2⟩ : ∃ x2, x2 = nm.drop (nm.length - 2) := ⟨_, rfl⟩
  rw [← hx2] at hsl hsgn
  clear hc56 hcc hx2
  clear hwr
  obtain ⟨n0, hn0⟩ : ∃ n0 : Nat, n0 = if lg = true then 8 else 4 := ⟨_, rfl⟩
  rw [← hn0] at hbt
  have HN0 : Hid ((lg = true ∧ n0 = 8) ∨ (lg = false ∧ n0 = 4)) := by
    cases lg
    · exact .inr ⟨rfl, hn0⟩
    · exact .inl ⟨rfl, hn0⟩
  clear hn0 hsg hlg
  obtain ⟨T, hT⟩ : ∃ T, T = bytGo nm (nm.length - 1) 0 n0 := ⟨_, rfl⟩
  rw [← hT] at hbt
  replace hT := Lib.hid hT
  rcases HN0.out with ⟨rfl, rfl⟩ | ⟨rfl, rfl⟩ <;> clear HN0 <;>
  · go_enter Try.func33, Try.ntmps33
    go_wp2_with fail
    refine (HF.out _).mono ?_
    rintro e w6 ⟨rfl, hS6⟩
    simp only [rrV]
    have HX := Lib.hid hS6
    clear hS6 HF
    go_wp2_with fail
    go_loopw [10, 11] (fun nv iv wr => ∃ k n : Nat, k ≤ nm.length - 1 ∧ nv = .int .i64 (n : Int) ∧ iv = .int .i64 (k : Int) ∧ Hid (T = bytGo nm (nm.length - 1 - k) k n) ∧ Hid (wr = w6.alloc (.cells #[.int .i64 rop, .string (str nm), .int .i64 8, .string (str takes), .string (str has), .bool free] 24))) (fun _ iv _ => nm.length + 1 - (intOf iv).toNat)
    case atStart => exact ⟨0, _, by omega, rfl, rfl, hT, by first | exact Lib.hid trivial | rfl⟩
    case round =>
      obtain ⟨k, n, hk, rfl, rfl, HT, hq⟩ := hrel
      have hq' := hq.out
      subst hq'
      have hw1 := IntWalk.i64_in ((k : Int) + 1) (by omega)
      have hw2 := IntWalk.i64_in ((k : Int) + 2) (by omega)
      by_cases hend : k + 1 < nm.length
      · have hend' : (k : Int) + 1 < (nm.length : Int) := by omega
        rw [show nm.length - 1 - k = (nm.length - 1 - (k + 1)) + 1 by omega] at HT
        have HT := HT.out
        rw [bytGo] at HT
        by_cases h3 : k < 3
        · rw [if_pos h3] at HT
          have HT2 := Lib.hid HT
          have h3' : (k : Int) < 3 := by omega
          clear HT
          go_wp2_with fail
          go_roundw
          case rel => exact ⟨k + 1, n, by omega, rfl, by rw [Int.natCast_add]; rfl, HT2, by first | exact Lib.hid trivial | rfl⟩
          case measure => simp [intOf]; omega
        · rw [if_neg h3] at HT
          have h3' : ¬ (k : Int) < 3 := by omega
          have hkl : k < nm.length := by omega
          have hix := index_str Try.underlying9 nm k hkl (P := Try.prog)
          obtain ⟨d, hd⟩ : ∃ d : Nat, d = nm[k].toNat := ⟨_, rfl⟩
          rw [← hd] at hix
          have hd56 : (nm[k]? = some 56) = (d = 56) := by
            rw [List.getElem?_eq_getElem hkl]
            exact propext ⟨fun h => by rw [hd, Option.some.inj h]; rfl, fun h => by rw [UInt8.toNat_inj.1 (show nm[k].toNat = (56 : UInt8).toNat from by rw [← hd, h]; rfl)]⟩
          simp only [hd56] at HT
          have hsx := str_slice_lh Try.underlying9 nm .i64 .i64 (k : Int) ((k : Int) + 2) k (k + 2) rfl rfl (by omega) (by omega) (P := Try.prog)
          rw [show k + 2 - k = 2 by omega] at hsx
          obtain ⟨x, hx⟩ : ∃ x, x = (nm.drop k).take 2 := ⟨_, rfl⟩
          rw [← hx] at hsx HT
          clear hd hd56 hx
          by_cases hd : d = 56
          · rw [if_pos hd] at HT
            have HT2 := Lib.hid HT
            subst hd
            clear HT
            go_wp2_with fail
            go_roundw
            case rel => exact ⟨k + 1, 1, by omega, rfl, by rw [Int.natCast_add]; rfl, HT2, by first | exact Lib.hid trivial | rfl⟩
            case measure => simp [intOf]; omega
          · rw [if_neg hd] at HT
            have hd' : ¬ (d : Int) = 56 := by omega
            by_cases hx1 : x = [49, 54]
            · rw [if_pos hx1] at HT
              have HT2 := Lib.hid HT
              have hb1 : ((str x).toList == [49, 54]) = true := by rw [str_toList, hx1]; rfl
              clear HT hx1 hd
              go_wp2_with fail
              go_roundw
              case rel => exact ⟨k + 1, 2, by omega, rfl, by rw [Int.natCast_add]; rfl, HT2, by first | exact Lib.hid trivial | rfl⟩
              case measure => simp [intOf]; omega
            · rw [if_neg hx1] at HT
              have hb1 : ((str x).toList == [49, 54]) = false := by rw [str_toList]; exact beq_eq_false_iff_ne.2 hx1
              by_cases hx3 : x = [51, 50]
              · rw [if_pos hx3] at HT
                have HT2 := Lib.hid HT
                have hb2 : ((str x).toList == [51, 50]) = true := by rw [str_toList, hx3]; rfl
                clear HT hx1 hx3 hd
                go_wp2_with fail
                go_roundw
                case rel => exact ⟨k + 1, 4, by omega, rfl, by rw [Int.natCast_add]; rfl, HT2, by first | exact Lib.hid trivial | rfl⟩
                case measure => simp [intOf]; omega
              · rw [if_neg hx3] at HT
                have HT2 := Lib.hid HT
                have hb2 : ((str x).toList == [51, 50]) = false := by rw [str_toList]; exact beq_eq_false_iff_ne.2 hx3
                clear HT hx1 hx3 hd
                go_wp2_with fail
                go_roundw
                case rel => exact ⟨k + 1, n, by omega, rfl, by rw [Int.natCast_add]; rfl, HT2, by first | exact Lib.hid trivial | rfl⟩
                case measure => simp [intOf]; omega
      · have hend' : ¬ (k : Int) + 1 < (nm.length : Int) := by omega
        rw [show nm.length - 1 - k = 0 by omega] at HT
        have hT0 : T = n := HT.out
        subst hT0
        by_cases h56 : c = 56
        · rw [if_pos h56] at hbt
          subst hbt
          subst h56
          clear HT hT hend
          go_wp2_with fail
          go_quiet (fail)
          go_wp2_with fail
          exact bodyPost_ret (v := .tuple #[.int .i64 ((1 : Nat) : Int), .bool _, .bool _, .bool _, .bool true]) (by simp [results, Try.results33, go_sem]) rfl ⟨rfl, (HX.out.alloc _).drewN _⟩
        · rw [if_neg h56] at hbt
          subst hbt
          have h56' : ¬ (c : Int) = 56 := by omega
          clear HT hT hend
          go_wp2_with fail
          go_quiet (fail)
          go_wp2_with fail
          exact bodyPost_ret (v := .tuple #[.int .i64 ((bt : Nat) : Int), .bool _, .bool _, .bool _, .bool true]) (by simp [results, Try.results33, go_sem]) rfl ⟨rfl, (HX.out.alloc _).drewN _⟩

def accB (op : Nat) : Bool :=
  if (ofR op).2 = true ∧ (ofR op).1.imm = 8 then
    decide (3 ≤ (ofR op).1.name.length) && decide ((ofR op).1.name.length ≤ 1000) &&
      decide (accF op = ⟨bytR (ofR op).1.name, if lngR (ofR op).1.name then 126 else 127, decide ((ofR op).1.takes.length = 2), decide ((ofR op).1.name.drop ((ofR op).1.name.length - 2) = [95, 115]), true⟩)
  else decide (accF op = Acc.no)
theorem acc_all : (List.range 256).all accB = true := by kernel_rfl
theorem acc_at (op : Nat) (h : op < 256) : accB op = true := List.all_eq_true.1 acc_all op (List.mem_range.2 h)

set_option maxRecDepth 100000 in
set_option maxHeartbeats 1600000 in
theorem acc_walk (w : World) (op : Nat) (h : op < 256) : Calls Try.prog 5 #[.int .u8 op] w fun e w' => e = .returned (.bool true) ∧ Step (fun _ => False) w w' := by
  have HA : Hid (∀ w, Calls Try.prog 32 #[.int .u8 op] w fun e w' => e = .returned (.tuple #[accV (accF op), .bool (accF op).ok]) ∧ Step (fun _ => False) w w') := fun w => access_walk w op h
  have hcast : IntKind.i64.wrap (op : Int) = (op : Int) := IntWalk.i64_in _ (by omega)
  have hb := acc_at op h
  rw [accB] at hb
  by_cases hc : (ofR op).2 = true ∧ (ofR op).1.imm = 8
  · rw [if_pos hc] at hb
    simp only [Bool.and_eq_true, decide_eq_true_eq] at hb
    obtain ⟨⟨l1, l2⟩, ha⟩ := hb
    have HR : Hid (∀ w, Calls Try.prog 33 #[.int .i64 (op : Int)] w fun e w' => e = .returned (.tuple #[.int .i64 (bytR (ofR op).1.name : Nat), .bool (lngR (ofR op).1.name), .bool (decide ((ofR op).1.takes.length = 2)), .bool (decide ((ofR op).1.name.drop ((ofR op).1.name.length - 2) = [95, 115])), .bool true]) ∧ Step (fun _ => False) w w') := fun w => racc_yes w op h hc.1 hc.2 l1 l2
    rw [ha] at HA
    obtain ⟨bt, hbt⟩ : ∃ bt, bt = bytR (ofR op).1.name := ⟨_, rfl⟩
    obtain ⟨lg, hlg⟩ : ∃ lg, lg = lngR (ofR op).1.name := ⟨_, rfl⟩
    obtain ⟨sg, hsg⟩ : ∃ sg, sg = decide ((ofR op).1.name.drop ((ofR op).1.name.length - 2) = [95, 115]) := ⟨_, rfl⟩
    obtain ⟨wr, hwr⟩ : ∃ wr, wr = decide ((ofR op).1.takes.length = 2) := ⟨_, rfl⟩
    rw [← hbt, ← hlg, ← hsg, ← hwr] at HA HR
    clear hbt hlg hsg hwr ha l1 l2 hc
    cases lg <;>
    · go_enter Try.func5, Try.ntmps5
      go_wp2_with fail
      refine (awake06 _).mono ?_
      rintro e w5 ⟨rfl, hS5⟩
      have HS5 := Lib.hid hS5
      clear hS5
      go_wp2_with fail
      refine (HA.out _).mono ?_
      rintro e w6 ⟨rfl, hS6⟩
      have HS6 := Lib.hid (HS5.out.trans hS6)
      clear hS6 HS5
      simp only [accV, if_true, if_false, Bool.false_eq_true]
      go_wp2_with fail
      refine (HR.out _).mono ?_
      rintro e w7 ⟨rfl, hS7⟩
      have HB := Lib.hid ((Blk.new w6 42 #[.int .i64 (bt : Int), .int .u8 _, .bool wr, .bool sg]).step hS7 id)
      have HS7 := Lib.hid ((HS6.out.alloc _).trans hS7)
      clear hS7 HS6
      obtain ⟨X, hX⟩ : ∃ X, X = w6.heap.size := ⟨_, rfl⟩
      rw [← hX] at HB ⊢
      have x0 := HB.out.cell 0
      have x1 := HB.out.cell 1
      have x2 := HB.out.cell 2
      have x3 := HB.out.cell 3
      simp at x0 x1 x2 x3
      clear hX
      go_wp2_with fail
      go_ret
      exact ⟨rfl, HS7.out⟩
  · rw [if_neg hc] at hb
    have ha := of_decide_eq_true hb
    have HR : Hid (∀ w, Calls Try.prog 33 #[.int .i64 (op : Int)] w fun e w' => e = .returned (.tuple #[.int .i64 0, .bool false, .bool false, .bool false, .bool false]) ∧ Step (fun _ => False) w w') := fun w => racc_no w op h hc
    rw [ha] at HA
    clear ha hb hc
    go_enter Try.func5, Try.ntmps5
    go_wp2_with fail
    refine (awake06 _).mono ?_
    rintro e w5 ⟨rfl, hS5⟩
    have HS5 := Lib.hid hS5
    clear hS5
    go_wp2_with fail
    refine (HA.out _).mono ?_
    rintro e w6 ⟨rfl, hS6⟩
    have HS6 := Lib.hid (HS5.out.trans hS6)
    clear hS6 HS5
    simp only [accV, Acc.no]
    go_wp2_with fail
    refine (HR.out _).mono ?_
    rintro e w7 ⟨rfl, hS7⟩
    have HB := Lib.hid ((Blk.new w6 42 #[.int .i64 0, .int .u8 0, .bool false, .bool false]).step hS7 id)
    have HS7 := Lib.hid ((HS6.out.alloc _).trans hS7)
    clear hS7 HS6
    obtain ⟨X, hX⟩ : ∃ X, X = w6.heap.size := ⟨_, rfl⟩
    rw [← hX] at HB ⊢
    have x0 := HB.out.cell 0
    have x1 := HB.out.cell 1
    have x2 := HB.out.cell 2
    have x3 := HB.out.cell 3
    simp at x0 x1 x2 x3
    clear hX
    go_wp2_with fail
    go_ret
    exact ⟨rfl, HS7.out⟩

theorem acc_done (W : World) (op : Nat) (h : op < 256) : Calls Try.prog 5 #[.int .u8 op] W fun e W' => e = .returned (.bool true) ∧ Below W.heap.size W W' :=
  (acc_walk W op h).mono fun _ _ hh => ⟨hh.1, hh.2.below W.heap.size (fun _ _ hf => hf.elim) (Nat.le_refl _)⟩
end Go.Proofs.Ytfemeendkjcffaa
